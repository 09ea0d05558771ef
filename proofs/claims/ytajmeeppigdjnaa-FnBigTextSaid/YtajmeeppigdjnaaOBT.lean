/- The program's 'BigText' walked: groups of nine digits, noughts stripped, bytes written by the library's Builder; no condition. -/
import Derived.Test.YtajmeeppigdjnaaPuSDT
import Derived.Test.YtajmeeppigdjnaaPuBT
import Derived.Test.YtajmeeppigdjnaaOTrim
import Derived.Test.YtajmeeppigdjnaaTextN
import Derived.Test.YtajmeeppigdjnaaTextL
import Derived.Test.YtajmeeppigdjnaaBld
import Derived.Test.YtajmeeppigdjnaaKd
namespace Go.Proofs.Ytajmeeppigdjnaa
open Go.RowKit Go.Proofs.Ytajmeeppigdjnaa.Own Go.Proofs.YtajmeeppigdjnaaW.PrintWords Go.Proofs.YtajmeeppigdjnaaW.PrintMore Go.Proofs.Ytajmeeppigdjnaa.PFnBigText Go.Proofs.Ytajmeeppigdjnaa.PFnSD
set_option linter.unusedVariables false
set_option linter.unusedSimpArgs false

/-- A row whose elements are told by no ok of their own. -/
theorem flatR {α : Type} {d : Kd α} {e base : Nat} {ok ok' : Nat → Prop} {w : World} {v : Value} {xs : List α} (hd : ∀ {ok1 ok2 : Nat → Prop} {x : α} {cs : List Value}, d.M w base ok1 x cs → d.M w base ok2 x cs) (h : d.R e w base ok v xs) (hok : ∀ k, v.ownBlock = some k → ok k → ok' k) : d.R e w base ok' v xs :=
  h.elim fun h0 h1 => h1.elim fun inner h2 => ⟨fun k hk => hok k hk (h0 k hk), inner, h2.1, h2.2.imp_ (fun _ _ hm => hd hm)⟩
theorem infoU8 : (Try.prog.info? 5).map (fun i => (i.zero, i.size, i.bytes)) = some (some (.int .u8 0), 1, 1) := by kernel_rfl
def bgDec (l : List Int) : ByteArray := strB (decD (val l).toNat)
def bgText (m : Bool) (l : List Int) : ByteArray := if bgFault m l = true then ⟨#[]⟩ else if m = true then (⟨#[45]⟩ : ByteArray) ++ bgDec l else bgDec l
/-- Rows of two types lie apart. -/
theorem rows_apart {k k' : IntKind} {e e' B B' : Nat} {w : World} {ok ok' : Nat → Prop} {v v' : Value} {l l' : List Int} (h : Kd.R (Kd.int k) e w B ok v l) (h' : Kd.R (Kd.int k') e' w B' ok' v' l') (hne : e ≠ e') :
    ∀ b, v'.ownBlock = some b → v.ownBlock ≠ some b := fun b hb hb' => by
  obtain ⟨_, _, ho, _⟩ := h
  obtain ⟨_, _, ho', _⟩ := h'
  obtain ⟨_, cur, hc⟩ := ownsRow_block ho hb'
  obtain ⟨_, cur', hc'⟩ := ownsRow_block ho' hb
  rw [hc] at hc'
  injection hc' with hc'
  injection hc' with _ hc' _
  exact hne hc'
theorem kdR_lit8 (w : World) (k : IntKind) (e : TypeId) : Kd.R (Kd.int k) e (w.alloc (.cells #[] e)) w.heap.size (fun _ => True) (.slice (some ⟨w.heap.size, 0, none⟩) 0 0) [] :=
  kdR_of_owns (l := []) ⟨by simp, .inr ⟨w.heap.size, 0, #[], rfl, Nat.le_refl _, heap_alloc_new w _, Nat.le_refl _, Nat.zero_le _, by simp, by simp⟩⟩
theorem trim_take {l : List Int} (hu : Us l) : l.take (lim (val l)).length = lim (val l) := by
  have key : ∀ j, j ≤ l.length → val l = vt l j → ∃ i, i ≤ l.length ∧ l.take i = lim (val l) := by
    intro j
    induction j with
    | zero => exact fun hj hv => ⟨0, hj, trim_end hu hj hv (fun h => by omega)⟩
    | succ j ih =>
      intro hj hv
      by_cases hz : lmb l j = 0
      · exact ih (by omega) (trim_step hv hz)
      · exact ⟨j + 1, hj, trim_end hu hj hv (fun _ => by simpa using hz)⟩
  obtain ⟨i, hi, he⟩ := key l.length (Nat.le_refl _) rfl
  have : (lim (val l)).length = i := by rw [← he, List.length_take]; omega
  rw [this]
  exact he
theorem run_cut_u8 (A : Option Addr) (n c j : Nat) (hm : j ≤ n) (hc : n ≤ c) (W : World) :
    (Instr.slice 52 (.slice A n c) none (some (.int .i64 j)) none).run Try.prog W = .ok (.slice A j c) W := by
  obtain ⟨i0, hi, hz0, hz1, hz2⟩ := info_parts infoU8
  have h := (print_take_int (k := .u8) 52 5 Try.underlying52 hi hz1 A c (List.replicate n 0) j (by omega) (by simpa using hm) (by simpa using hc)).1 W
  simpa [Nat.min_eq_left hm] using h
theorem chr8_int {d : Nat} (h : d < 10) : (((chr8 d).toNat : Nat) : Int) = 48 + (d : Int) := by
  unfold chr8
  rw [UInt8.toNat_ofNat']
  omega
theorem byteCells_snoc {d : Nat} (h : d < 10) (l : List UInt8) : Lib.byteCells l ++ [.int .u8 (48 + (d : Int))] = Lib.byteCells (l ++ [chr8 d]) := by
  simp [Lib.byteCells, chr8_int h]
theorem cell_kept {w w1 : World} {a : Addr} {v : Value} (hb : Below w.heap.size w w1) (h : w.cell? a = some v) : w1.cell? a = some v := (World.cell?_of_block (hb.block _ (World.block_lt_of_cell? w _ h))).trans h
theorem nameR {k : IntKind} {e B : Nat} {w : World} {ok : Nat → Prop} {v : Value} {l : List Int} (h : Kd.R (Kd.int k) e w B ok v l) : ∃ u, u = v := ⟨_, rfl⟩
def vlen : Value → Nat
  | .slice _ n _ => n
  | _ => 0
set_option maxRecDepth 100000 in
set_option maxHeartbeats 8000000 in
theorem implBigText (m : Bool) (l : List Int) (hu : Us l) (hl : l.length ≤ 140737488351232) (A : Option Addr) (n : Nat) (hn : l.length ≤ n) (w : World) (hr : Kd.C (Kd.int .u32) w A l.length l) :
    Calls Try.prog 28 #[.agg #[.bool m, .slice A l.length n]] w fun e w' => e = .returned (.string (bgText m l)) ∧ Below w.heap.size w w' := by
  have R0 := Lib.hid hr
  have HU := Lib.hid hu
  have HN := Lib.hid hn
  clear hr hu hn
  generalize hW : w.alloc (.cells #[.bool m, .slice A l.length n] 24) = W0
  have SZ0 : Hid (W0.heap.size = w.heap.size + 1) := by subst hW; show _ = _; simp
  have B0 : Hid (W0.heap[w.heap.size]? = some (.cells #[.bool m, .slice A l.length n] 24 (0, 0))) := by subst hW; exact blk_new w _
  have HB : Hid (Below w.heap.size w W0) := by subst hW; exact (Below.refl _ _).alloc (Nat.le_refl _) _
  have HW := Lib.hid hW
  clear hW
  go_enter Try.func28, Try.ntmps28
  go_wp2_with fail
  rw [HW.out]
  clear HW
  have CT := impl_BigFault.calls m A n l (bgFault m l) W0 (Kd.C_below R0.out HB.out) HN.out (impl_BigFault_is m l hl)
  refine CT.mono ?_
  clear CT
  rintro e w1 ⟨rfl, hb⟩
  have SZ1 := Lib.hid (show W0.heap.size ≤ w1.heap.size from hb.size)
  have B0 := Lib.hid (blk_below B0.out hb)
  have HB := Lib.hid (HB.out.trans (hb.mono HB.out.size))
  clear hb
  cases hf : bgFault m l
  rotate_left
  · have FF : Hid (bgText m l = ⟨#[]⟩) := by show _ = _; unfold bgText; rw [if_pos hf]
    clear hf
    go_wp2_with fail
    go_ret
    exact ⟨by rw [FF.out]; rfl, HB.out⟩
  · have HF := Lib.hid hf
    have z00 := (blk_cell B0.out 0).trans (rfl : (_ : Option Value) = some (.bool m))
    have z01 := (blk_cell B0.out 1).trans (rfl : (_ : Option Value) = some (.slice A l.length n))
    clear hf
    by_cases h0 : l.length = 0
    · have e0 : (((l.length : Nat) : Int) == 0) = true := by rw [h0]; rfl
      have FF : Hid (bgText m l = ⟨#[48]⟩) := by
        show _ = _
        have hm := (bgFault_no HF.out).2.2 h0
        have hl0 := List.eq_nil_of_length_eq_zero h0
        subst hm hl0
        unfold bgText
        rw [HF.out]
        simp only [Bool.false_eq_true, if_false]
        unfold bgDec
        rw [val_nil, show (0 : Int).toNat = 0 from rfl, decD_lt (by decide)]
        rfl
      go_wp2_with fail
      go_ret
      exact ⟨by rw [FF.out]; rfl, HB.out⟩
    · have e0 : (((l.length : Nat) : Int) == 0) = false := by simpa using h0
      have L40 := Lib.hid (show l.length ≤ 40 from (bgFault_no HF.out).1)
      have HT := Lib.hid (show Top l from (bgFault_no HF.out).2.1)
      go_wp2_with (first
        | ((with_reducible refine gate_dst (N := 15) rfl ?_); refine Kd.R_lit (Kd.int .u32) (w0 := w) w.heap.size 62 rfl (N := 15) rfl (xs := ([] : List Int)) (inner := []) (ok := fun _ => True) (okp := fun _ => True) (by first | (go_simp; done) | (go_simp; rfl)) (Reps.none _ _) (fun _ hk => hk) trivial HB.out HB.out.size (by simp) ?_; intro v1 w2 ho hb hg _; have HO := Lib.hid ho; have B0 := Lib.hid (blk_grown B0.out hg (by simp)); have HB := Lib.hid hb; have z00 := (blk_cell B0.out 0).trans (rfl : (_ : Option Value) = some (.bool m)); have z01 := (blk_cell B0.out 1).trans (rfl : (_ : Option Value) = some (.slice A l.length n)); clear ho hb hg)
        | (at_builtin; refine Kd.R_append_rows (Kd.int .u32) (w0 := w) w.heap.size rfl (.tmp 15) (.tmp 17) 22 62 (.int .u32 0) 4 rfl Try.underlying22 infoU32 rfl (by decide) (by omega) v1 [] l _ _ _ (fun _ => True) (fun _ => False) rfl rfl HO.out (Kd.C_below R0.out HB.out) (fun _ _ h => h) (fun _ h => h.elim) (fun _ _ => trivial) HB.out HB.out.size (by have := L40.out; simp only [List.length_nil]; omega) ?_; intro v2 w3 ho hb hg _; have HO2 := Lib.hid ho; have B0 := Lib.hid (blk_grown B0.out hg (Kd.R_ne HO.out B0.out (by decide))); have HB := Lib.hid hb; clear ho hb hg))
      have HD := Lib.hid (Kd.R_lower (kdR_lit8 w3 .u8 5) HB.out.size)
      have HO3 := Lib.hid (Kd.R_alloc HO2.out (.cells #[] 5))
      have B0 := Lib.hid (blk_old B0.out (.cells #[] 5))
      have HB := Lib.hid (HB.out.alloc HB.out.size (.cells #[] 5))
      clear HO HO2 z00 z01 SZ0 SZ1
      go_loopw [3, 4] (fun lv dv wr => Hid (∃ (L : List Int) (ds : List Nat) (j : Nat), Kd.R (Kd.int .u32) 62 wr w.heap.size (fun _ => True) lv L ∧ Kd.R (Kd.int .u8) 5 wr w.heap.size (fun _ => True) dv (chs ds) ∧ wr.heap[w.heap.size]? = some (.cells #[.bool m, .slice A l.length n] 24 (0, 0)) ∧ Below w.heap.size w wr ∧ Us L ∧ Top L ∧ L.length ≤ 40 ∧ (∀ d ∈ ds, d < 10) ∧ ds.length = 9 * j ∧ 9 * j ≤ 408 ∧ (dval ds : Int) + 10 ^ (9 * j) * val L = val l)) (fun _ dv _ => 1000 - vlen dv)
      case atStart => exact Lib.hid ⟨l, [], 0, by simpa using HO3.out, HD.out, B0.out, HB.out, HU.out, HT.out, L40.out, by simp, rfl, by omega, by simp [dval]⟩
      case round =>
        obtain ⟨L, ds, j, hRl, hRd, hb0, hbb, hUL, hTL, hL4, hds, hdl, hj408, hval⟩ := hrel.out
        clear hrel HD HO3 B0 HB
        obtain ⟨AL, cL, rfl⟩ := Kd.R_slice hRl
        obtain ⟨AD, cD, rfl⟩ := Kd.R_slice hRd
        have RL := Lib.hid hRl
        have RD := Lib.hid hRd
        have B0 := Lib.hid hb0
        have HB := Lib.hid hbb
        have UL := Lib.hid hUL
        have TL := Lib.hid hTL
        have DS := Lib.hid hds
        have DL := Lib.hid hdl
        have HV := Lib.hid hval
        clear hRl hRd hb0 hbb hUL hTL hds hdl hval
        by_cases hL0 : L.length = 0
        · have hL0b : decide (0 < L.length) = false := by simp [hL0]
          have hLn := List.eq_nil_of_length_eq_zero hL0
          have hdv : (dval ds : Int) = val l := by have := HV.out; rw [hLn, val_nil] at this; omega
          have hpos : 0 < dval ds := by have := top_le HU.out HT.out (by omega); have := PW_pos (l.length - 1); omega
          have HDV := Lib.hid hdv
          clear hLn hdv HV RL
          obtain ⟨nd, hnd⟩ : ∃ nd, nd = (chs ds).length := ⟨_, rfl⟩
          rw [← hnd]
          have HND := Lib.hid (show nd = ds.length by rw [hnd, chs_length])
          obtain ⟨ga, goff, rfl, _, hcell⟩ := kdC_cell (Kd.R_reads' RD.out).2.2 (by rw [chs_length]; cases ds with | nil => simp [dval] at hpos | cons _ _ => simp)
          have HC := Lib.hid hcell
          have HcD := Lib.hid (Kd.R_reads' RD.out).2.1
          have hmax : (chs ds).length ≤ 9223372036854775807 := (Kd.R_reads' RD.out).2.2.2.1
          rw [← hnd] at HcD hmax
          clear hcell hnd
          go_wp2_with fail
          go_loop [4] (fun v => ∃ q : Nat, q ≤ nd ∧ v = .slice (some ⟨ga, goff, none⟩) q cD ∧ Hid (dval (ds.take q) = dval ds)) (fun v => vlen v)
          case atStart => exact ⟨nd, Nat.le_refl _, rfl, Lib.hid (by rw [HND.out, List.take_length])⟩
          case round =>
            obtain ⟨q, hq, rfl, hvq⟩ := hrel
            obtain ⟨i, rfl⟩ : ∃ i, q = i + 1 := ⟨q - 1, by cases q with | zero => have := hvq.out; simp [dval] at this; omega | succ i => rfl⟩
            have hi : i < ds.length := by have := HND.out; omega
            have z0 := HC.out i (48 + (ds[i] : Int)) (by simp [chs, hi])
            have HVQ := Lib.hid hvq.out
            clear hvq
            by_cases hz : ds[i] = 0
            · have STEP := Lib.hid ((dval_take_zero hi hz).symm.trans HVQ.out)
              rw [hz] at z0
              have RC := run_cut_u8 (some ⟨ga, goff, none⟩) (i + 1) cD i (by omega) (by have := HcD.out; omega)
              clear hz
              go_wp2_with fail
              go_round
              case rel => exact ⟨i, by omega, by go_num, STEP.out⟩
              case measure => simp [vlen]
            · have hx : ((48 + (ds[i] : Int)) == 48) = false := by simp; omega
              have HZ := Lib.hid hz
              obtain ⟨dz, hdz⟩ : ∃ dz : Int, dz = (ds[i] : Int) := ⟨_, rfl⟩
              rw [← hdz] at hx z0
              clear hz hdz
              have LD := Lib.hid (show ds.length ≤ 1000000 by have := DL.out; omega)
              have BLD := Lib.hid (Lib.fresh_isBuilder 72 5 wr)
              have HBW := Lib.hid ((Below.refl wr.heap.size wr).alloc (Nat.le_refl _) (.cells #[.pointer none, .slice none 0 0] 72))
              have z00 := (blk_cell (blk_old B0.out (.cells #[.pointer none, .slice none 0 0] 72)) 0).trans (rfl : (_ : Option Value) = some (.bool m))
              cases m with
              | false =>
                have HZ' := HZ.out
                have FIN : Hid (bgText false l = ⟨(([] : List UInt8) ++ ((ds.take (i + 1)).map chr8).reverse).toArray⟩) := by
                  show _ = _
                  unfold bgText
                  rw [HF.out]
                  simp only [Bool.false_eq_true, if_false, if_true]
                  rw [dec_take DS.out hi HZ', HVQ.out]
                  unfold bgDec
                  rw [← HDV.out, Int.toNat_natCast]
                  apply ByteArray.ext
                  simp [strB]
                go_wp2_with fail
                go_loopw [8] (fun iv wx => ∃ q : Nat, q ≤ i + 1 ∧ iv = .int .i64 ((q : Int) - 1) ∧ Hid (Lib.IsBuilder 72 5 wr.heap.size wr.heap.size (Lib.byteCells (([] : List UInt8) ++ (((ds.take (i + 1)).drop q).map chr8).reverse)) wx ∧ Below wr.heap.size wr wx)) (fun iv _ => (intOf iv + 1).toNat)
                case atStart => exact ⟨i + 1, Nat.le_refl _, by go_num, Lib.hid ⟨by rw [List.drop_of_length_le (by rw [List.length_take]; omega)]; exact BLD.out, HBW.out⟩⟩
                case round =>
                  obtain ⟨q, hq, rfl, hrel⟩ := hrel
                  obtain ⟨hbl, hbw⟩ := hrel.out
                  clear hrel
                  have BLD := Lib.hid hbl
                  have HBW := Lib.hid hbw
                  clear hbl hbw
                  cases q with
                  | zero =>
                    rw [show (((0 : Nat) : Int) - 1) = -1 by omega]
                    go_wp2_with fail
                    have h := BLD.out
                    rw [List.drop_zero] at h
                    have CS := bld_String _ _ _ _ h HBW.out.size
                    rw [← FIN.out] at CS
                    refine CS.mono ?_
                    clear CS
                    rintro e w9 ⟨rfl, hb⟩
                    have HB := Lib.hid (HB.out.trans ((HBW.out.trans (hb.mono (Nat.le_refl _))).mono HB.out.size))
                    go_wp2_with fail
                    go_ret
                    exact ⟨rfl, HB.out⟩
                  | succ q =>
                    rw [show (((q + 1 : Nat) : Int) - 1) = (q : Int) by omega]
                    have hqd : q < ds.length := by omega
                    have hd10 : ds[q] < 10 := DS.out _ (List.getElem_mem hqd)
                    have zq := cell_kept HBW.out (HC.out q (48 + (ds[q] : Int)) (by simp [chs, hqd]))
                    have CELLS := Lib.hid ((byteCells_snoc hd10 (([] : List UInt8) ++ (((ds.take (i + 1)).drop (q + 1)).map chr8).reverse)).trans (by rw [rev_step (show q < i + 1 by omega) (by omega) ([] : List UInt8)]))
                    have LEN : Hid ((Lib.byteCells (([] : List UInt8) ++ (((ds.take (i + 1)).drop (q + 1)).map chr8).reverse)).length + 1 ≤ 140737488355328) := by
                      show _ ≤ _
                      have h1 := LD.out
                      simp only [Lib.byteCells, List.length_map, List.length_append, List.length_reverse, List.length_drop, List.length_take, List.length_cons, List.length_nil]
                      omega
                    obtain ⟨cq, hcq⟩ : ∃ cq : Int, cq = 48 + (ds[q] : Int) := ⟨_, rfl⟩
                    rw [← hcq] at zq CELLS
                    have CALL := Lib.hid (bld_WriteByte _ _ _ cq _ BLD.out LEN.out HBW.out.size)
                    clear hcq
                    go_wp2_with fail
                    refine CALL.out.mono ?_
                    clear CALL
                    rintro e w9 ⟨rfl, hb1, hb2⟩
                    rw [CELLS.out] at hb1
                    have BLD := Lib.hid (Or.inr hb1 : Lib.IsBuilder _ _ _ _ _ w9)
                    have HBW := Lib.hid (HBW.out.trans hb2)
                    go_wp2_with fail
                    go_roundw
                    case rel => exact ⟨q, by omega, by go_num, Lib.hid ⟨BLD.out, HBW.out⟩⟩
                    case measure => simp [intOf]
              | true =>
                have LEN0 := Lib.hid (show ([] : List Value).length + 1 ≤ 140737488355328 by decide)
                go_wp2_with fail
                refine (bld_WriteByte _ _ _ 45 _ BLD.out LEN0.out HBW.out.size).mono ?_
                rintro e w8 ⟨rfl, hb1, hb2⟩
                have BLD : Hid (Lib.IsBuilder 72 5 wr.heap.size wr.heap.size (Lib.byteCells [45]) w8) := Lib.hid (Or.inr hb1)
                have HBW := Lib.hid (HBW.out.trans hb2)
                clear hb1 hb2 z00
                have HZ' := HZ.out
                have FIN : Hid (bgText true l = ⟨(([45] : List UInt8) ++ ((ds.take (i + 1)).map chr8).reverse).toArray⟩) := by
                  show _ = _
                  unfold bgText
                  rw [HF.out]
                  simp only [Bool.false_eq_true, if_false, if_true]
                  rw [dec_take DS.out hi HZ', HVQ.out]
                  unfold bgDec
                  rw [← HDV.out, Int.toNat_natCast]
                  apply ByteArray.ext
                  simp [strB]
                go_wp2_with fail
                go_loopw [8] (fun iv wx => ∃ q : Nat, q ≤ i + 1 ∧ iv = .int .i64 ((q : Int) - 1) ∧ Hid (Lib.IsBuilder 72 5 wr.heap.size wr.heap.size (Lib.byteCells (([45] : List UInt8) ++ (((ds.take (i + 1)).drop q).map chr8).reverse)) wx ∧ Below wr.heap.size wr wx)) (fun iv _ => (intOf iv + 1).toNat)
                case atStart => exact ⟨i + 1, Nat.le_refl _, by go_num, Lib.hid ⟨by rw [List.drop_of_length_le (by rw [List.length_take]; omega)]; exact BLD.out, HBW.out⟩⟩
                case round =>
                  obtain ⟨q, hq, rfl, hrel⟩ := hrel
                  obtain ⟨hbl, hbw⟩ := hrel.out
                  clear hrel
                  have BLD := Lib.hid hbl
                  have HBW := Lib.hid hbw
                  clear hbl hbw
                  cases q with
                  | zero =>
                    rw [show (((0 : Nat) : Int) - 1) = -1 by omega]
                    go_wp2_with fail
                    have h := BLD.out
                    rw [List.drop_zero] at h
                    have CS := bld_String _ _ _ _ h HBW.out.size
                    rw [← FIN.out] at CS
                    refine CS.mono ?_
                    clear CS
                    rintro e w9 ⟨rfl, hb⟩
                    have HB := Lib.hid (HB.out.trans ((HBW.out.trans (hb.mono (Nat.le_refl _))).mono HB.out.size))
                    go_wp2_with fail
                    go_ret
                    exact ⟨rfl, HB.out⟩
                  | succ q =>
                    rw [show (((q + 1 : Nat) : Int) - 1) = (q : Int) by omega]
                    have hqd : q < ds.length := by omega
                    have hd10 : ds[q] < 10 := DS.out _ (List.getElem_mem hqd)
                    have zq := cell_kept HBW.out (HC.out q (48 + (ds[q] : Int)) (by simp [chs, hqd]))
                    have CELLS := Lib.hid ((byteCells_snoc hd10 (([45] : List UInt8) ++ (((ds.take (i + 1)).drop (q + 1)).map chr8).reverse)).trans (by rw [rev_step (show q < i + 1 by omega) (by omega) ([45] : List UInt8)]))
                    have LEN : Hid ((Lib.byteCells (([45] : List UInt8) ++ (((ds.take (i + 1)).drop (q + 1)).map chr8).reverse)).length + 1 ≤ 140737488355328) := by
                      show _ ≤ _
                      have h1 := LD.out
                      simp only [Lib.byteCells, List.length_map, List.length_append, List.length_reverse, List.length_drop, List.length_take, List.length_cons, List.length_nil]
                      omega
                    obtain ⟨cq, hcq⟩ : ∃ cq : Int, cq = 48 + (ds[q] : Int) := ⟨_, rfl⟩
                    rw [← hcq] at zq CELLS
                    have CALL := Lib.hid (bld_WriteByte _ _ _ cq _ BLD.out LEN.out HBW.out.size)
                    clear hcq
                    go_wp2_with fail
                    refine CALL.out.mono ?_
                    clear CALL
                    rintro e w9 ⟨rfl, hb1, hb2⟩
                    rw [CELLS.out] at hb1
                    have BLD := Lib.hid (Or.inr hb1 : Lib.IsBuilder _ _ _ _ _ w9)
                    have HBW := Lib.hid (HBW.out.trans hb2)
                    go_wp2_with fail
                    go_roundw
                    case rel => exact ⟨q, by omega, by go_num, Lib.hid ⟨BLD.out, HBW.out⟩⟩
                    case measure => simp [intOf]
        · have HJ := Lib.hid (show 9 * j < 400 from dig_few (e := 399 + 1) (Int.lt_of_lt_of_le (Int.lt_of_lt_of_le (val_lt HU.out) (PW_mono L40.out)) PW40_pow) (by have := top_le UL.out TL.out (by omega); have := PW_pos (L.length - 1); omega) HV.out)
          obtain ⟨L1, k, h1len, h1us, h1val, hk⟩ := shortDiv_is (d := 1000000000) UL.out (by omega) (by decide) (by decide)
          have hL0b : decide (0 < L.length) = true := by simp; omega
          obtain ⟨r0, hr0⟩ : ∃ r0 : Nat, val L % 1000000000 = (r0 : Int) := ⟨(val L % 1000000000).toNat, by omega⟩
          rw [hr0] at hk
          have CS := Lib.hid (impl_shortDiv.calls k (fun b => (Value.slice AL L.length cL).ownBlock = some b) (.slice AL L.length cL) L 1000000000 _ _ w wr HB.out (flatR (fun h => h) RL.out (fun b hb _ => hb)) hk)
          have APART := Lib.hid (rows_apart RL.out RD.out (by decide))
          have NE0 := Lib.hid (Kd.R_ne RL.out B0.out (by decide))
          have H1 := Lib.hid (And.intro h1len (And.intro h1us h1val))
          have HR0 := Lib.hid hr0
          clear h1us h1val hk hr0
          go_wp2_with fail
          refine CS.out.mono ?_
          clear CS
          rintro e w4 ⟨rfl, hv4, hb4, hk4⟩
          have hb4blk : w4.heap[w.heap.size]? = some (.cells #[.bool m, .slice A l.length n] 24 (0, 0)) :=
            (hk4.2 _ (Array.getElem?_eq_some_iff.1 B0.out).1 (fun h => NE0.out h.symm)).trans B0.out
          have hD4 : Kd.R (Kd.int .u8) 5 w4 w.heap.size (fun _ => True) (.slice AD (chs ds).length cD) (chs ds) :=
            Kd.R_mono (Kd.R_kept (flatR (ok' := fun b => (Value.slice AD (chs ds).length cD).ownBlock = some b) (fun h => h) RD.out (fun b hb _ => hb)) hk4 (fun b hb hb' => APART.out b hb hb')) (fun _ _ => trivial)
          have hC4 := Kd.R_reads' hv4
          have h1u := H1.out.2.1
          have CT := Lib.hid (show Calls Try.prog 64 #[.slice AL L.length cL] w4 fun e w' => e = .returned (.slice AL (lim (val L1)).length cL) ∧ Below w4.heap.size w4 w' from by
            have := implTrim L1 (by omega) h1u AL cL w4 hC4.2.2 (by omega)
            rwa [h1len] at this)
          have RL := Lib.hid (Kd.R_mono (ok' := fun _ => True) (Kd.R_take (m := (lim (val L1)).length) hv4 (by rw [← trim_take h1u, List.length_take]; omega)) (fun _ _ => trivial))
          have RD := Lib.hid hD4
          have B0 := Lib.hid hb4blk
          have HB := Lib.hid hb4
          clear hv4 hb4 hk4 hb4blk hD4 hC4 hL0b
          go_wp2_with fail
          refine CT.out.mono ?_
          clear CT
          rintro e w5 ⟨rfl, hb5⟩
          have RL := Lib.hid (Kd.R_below RL.out hb5)
          rw [trim_take h1u] at RL
          have RD := Lib.hid (Kd.R_below RD.out hb5)
          have B0 := Lib.hid (blk_below B0.out hb5)
          have HB := Lib.hid (HB.out.trans (hb5.mono HB.out.size))
          clear hb5
          obtain ⟨V, hV⟩ : ∃ V : Int, val L1 = V := ⟨_, rfl⟩
          have hV0 : 0 ≤ V := by rw [← hV]; exact val_nonneg h1u
          have hL1V : val L = 1000000000 * V + (r0 : Int) := by have := H1.out.2.2; have := HR0.out; omega
          rw [hV] at RL
          rw [hV]
          have HLV := Lib.hid hL1V
          have LV40 := Lib.hid (show (lim V).length ≤ 40 by have h5 := trim_take h1u; rw [hV] at h5; rw [← h5, List.length_take]; omega)
          have HV0 := Lib.hid hV0
          have hr9 : r0 < 10 ^ 9 := by have := HR0.out; omega
          have hsum : (dval ds : Int) + 10 ^ (9 * j + 0) * (r0 : Int) + 10 ^ (9 * j + 9) * V = val l := by
            have e9 : (10 : Int) ^ (9 * j + 9) = 10 ^ (9 * j) * 1000000000 := by rw [Int.pow_add]; rfl
            rw [Nat.add_zero, ← HV.out, hL1V, e9, Int.mul_add, Int.mul_assoc]
            omega
          have HSUM := Lib.hid hsum
          clear hV hV0 hL1V hsum h1u h1len H1
          go_wp2_with fail
          go_loopw [4, 5, 6] (fun dv rv kv wr => ∃ (k r : Nat), k ≤ 9 ∧ kv = .int .i64 k ∧ rv = .int .u32 r ∧ r < 10 ^ (9 - k) ∧ Hid (∃ ds' : List Nat, Kd.R (Kd.int .u32) 62 wr w.heap.size (fun _ => True) (.slice AL (lim V).length cL) (lim V) ∧ Kd.R (Kd.int .u8) 5 wr w.heap.size (fun _ => True) dv (chs ds') ∧ wr.heap[w.heap.size]? = some (.cells #[.bool m, .slice A l.length n] 24 (0, 0)) ∧ Below w.heap.size w wr ∧ (∀ d ∈ ds', d < 10) ∧ ds'.length = 9 * j + k ∧ (dval ds' : Int) + 10 ^ (9 * j + k) * (r : Int) + 10 ^ (9 * j + 9) * V = val l)) (fun _ _ kv _ => 9 - (intOf kv).toNat)
          case atStart => exact ⟨0, r0, by omega, rfl, rfl, hr9, Lib.hid ⟨ds, RL.out, RD.out, B0.out, HB.out, DS.out, DL.out, HSUM.out⟩⟩
          case round =>
            obtain ⟨k, r, hk9, rfl, rfl, hr10, hrel⟩ := hrel
            obtain ⟨ds', hRl, hRd, hb0, hbb, hds', hdl', hval'⟩ := hrel.out
            clear hrel RL RD B0 HB HSUM
            obtain ⟨dv, rfl⟩ := nameR hRd
            have RL := Lib.hid hRl
            have RD := Lib.hid hRd
            have B0 := Lib.hid hb0
            have HB := Lib.hid hbb
            have DS' := Lib.hid hds'
            have DL' := Lib.hid hdl'
            have HV' := Lib.hid hval'
            clear hRl hRd hb0 hbb hds' hdl' hval'
            by_cases hk : k < 9
            · have hkb : decide ((k : Int) < 9) = true := by simp; omega
              have hr32 : r < 4294967296 := by
                have : 10 ^ (9 - k) ≤ 10 ^ 9 := Nat.pow_le_pow_right (by decide) (by omega)
                omega
              have hlen' : (chs ds').length ≤ 100 + 400 := by
                have := HJ.out
                rw [chs_length, DL'.out]
                omega
              have hch : chs ds' ++ [48 + (r : Int) % 10] = chs (ds' ++ [r % 10]) := chs_snoc ds' (r % 10)
              go_wp2_with (at_builtin; refine Kd.R_append (Kd.int .u8) (w0 := w) w.heap.size rfl (.tmp 31) (.tmp 36) 52 5 (.int .u8 0) 1 rfl Try.underlying52 infoU8 rfl (by decide) (by omega) dv (chs ds') (48 + (r : Int) % 10) [.int .u8 (48 + (r : Int) % 10)] (fun _ => True) (fun _ => False) rfl rfl rfl (fun _ hk => hk.elim) (fun _ _ => trivial) RD.out HB.out HB.out.size (by omega) ?_; intro v6 w6 ho hb hg _; rw [hch] at ho; have RL := Lib.hid (Kd.R_mono (ok' := fun _ => True) (Kd.R_step (flatR (ok' := fun b => (Value.slice AL (lim V).length cL).ownBlock = some b) (fun h => h) RL.out (fun b hb _ => hb)) (fun b hb hlt => hg.block b hlt (fun he => rows_apart RL.out RD.out (by decide) b he.symm hb))) (fun _ _ => trivial)); have B0 := Lib.hid (blk_grown B0.out hg (Kd.R_ne RD.out B0.out (by decide))); have RD := Lib.hid ho; have HB := Lib.hid hb; clear ho hb hg)
              go_roundw
              case rel => exact ⟨k + 1, r / 10, by omega, by go_num, by go_num, dig_small hk hr10, Lib.hid ⟨ds' ++ [r % 10], RL.out, RD.out, B0.out, HB.out, fun d hd => by
                rcases List.mem_append.1 hd with hd | hd
                · exact DS'.out d hd
                · rw [List.mem_singleton.1 hd]; omega, by rw [List.length_append, DL'.out]; rfl, dig_step DL'.out HV'.out⟩⟩
              case measure => simp [intOf]; omega
            · obtain rfl : k = 9 := by omega
              obtain rfl : r = 0 := by simpa using hr10
              obtain ⟨AE, cE, rfl⟩ := Kd.R_slice RD.out
              go_wp2_with fail
              go_roundw
              case rel => exact Lib.hid ⟨lim V, ds', j + 1, RL.out, RD.out, B0.out, HB.out, us_lim V, top_lim V, LV40.out, DS'.out, by rw [DL'.out]; omega, by have := HJ.out; omega, by
                have h := HV'.out
                rw [val_lim HV0.out]
                rw [show 9 * (j + 1) = 9 * j + 9 by omega]
                simpa using h⟩
              case measure =>
                have h1 := HJ.out
                have h2 := DL.out
                have h3 := DL'.out
                simp only [vlen, chs_length, h2, h3]
                omega

end Go.Proofs.Ytajmeeppigdjnaa
