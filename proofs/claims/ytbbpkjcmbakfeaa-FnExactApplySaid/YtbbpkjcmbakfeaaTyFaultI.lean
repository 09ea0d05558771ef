/- The program's 'TypeFault' on types as data; no condition. -/
import Derived.Test.YtbbpkjcmbakfeaaTyFault
import Derived.Deep.CutRange
import Derived.Deep.CutBlock
import Derived.Deep.DeepCutAuto
namespace Go.Proofs.Ytbbpkjcmbakfeaa
open Go.RowKit
set_option linter.unusedVariables false
set_option linter.unusedSimpArgs false

/-- What the world holds while the program counts up in block C, with its verdict in the next. -/
structure Ts (W0 : World) (c : Int) (g : Bool) (w : World) : Prop where
  below : Below W0.heap.size W0 w
  cnt : w.heap[W0.heap.size]? = some (.cells #[.int .i64 c] 3 (0, 0))
  good : w.heap[W0.heap.size + 1]? = some (.cells #[.bool g] 4 (0, 0))
theorem Ts.count {W0 w : World} {c : Int} {g : Bool} (h : Ts W0 c g w) (c' : Int) : Ts W0 c' g (w.setCell ⟨W0.heap.size, 0, none⟩ (.int .i64 c')) :=
  ⟨h.below.setCell (Nat.le_refl _) _, blk_set h.cnt 0 _, blk_far h.good (p := ⟨W0.heap.size, 0, none⟩) (by simp) _⟩
theorem Ts.bad {W0 w : World} {c : Int} {g : Bool} (h : Ts W0 c g w) : Ts W0 c false (w.setCell ⟨W0.heap.size + 1, 0, none⟩ (.bool false)) :=
  ⟨h.below.setCell (Nat.le_succ _) _, blk_far h.cnt (p := ⟨W0.heap.size + 1, 0, none⟩) (by simp) _, blk_set h.good 0 _⟩
def ImplTF (x : Ty) : Prop := ∀ (W0 w : World) (cs : List Value) (b off : Nat) (deep c : Int), Rd W0 x.enc cs → CellsAt W0 b off cs → Ts W0 c true w → 0 ≤ c → c ≤ 20000 → 0 ≤ deep → deep ≤ 201 →
  Calls Try.prog 116 #[.pointer (some ⟨b, off, none⟩), .int .i64 deep, .pointer (some ⟨W0.heap.size, 0, none⟩), .pointer (some ⟨W0.heap.size + 1, 0, none⟩)] w fun e w' =>
    e = .returned (.tuple #[]) ∧ ∃ c', Ts W0 c' (!(x.fault deep (20000 - c)).1) w' ∧ ((x.fault deep (20000 - c)).1 = false → c' = 20000 - (x.fault deep (20000 - c)).2)
def tyBad1 (c deep d : Int) : Bool := decide (20000 < c + 1) || (decide (200 < deep) || decide (d < 0))
def tyBad2 (k d : Int) (n : ByteArray) (len : Nat) : Bool := if k = 1 ∨ k = 2 then (n.toList != [] || decide (0 < (len : Int))) else if k = 3 then (decide (d ≠ 0) || n.toList.isEmpty) else true

theorem tyBad_true {k d : Int} {n : ByteArray} {ks : List Ty} {deep c : Int} (h : (!tyBad1 c deep d && !tyBad2 k d n ks.length) = false) : ((Ty.mk k d n ks).fault deep (20000 - c)).1 = true := by
  rw [Ty.fault]
  simp only [tyBad1, tyBad2] at h
  split
  · rfl
  · split
    · rename_i h1 h2
      rw [if_pos h2] at h
      simp at h ⊢
      by_cases hd : d < 0
      · exact .inl hd
      · have hh := h (by omega) (by omega) (by omega)
        by_cases hn : n.toList = []
        · exact .inr (.inr (hh hn))
        · exact .inr (.inl hn)
    · split
      · rename_i h1 h2 h3
        rw [if_neg h2, if_pos h3] at h
        simp at h
        rw [if_pos]
        by_cases hd : d = 0
        · exact .inr (h (by omega) (by omega) (by omega) hd)
        · exact .inl hd
      · rfl
theorem tyBad_false {k d : Int} {n : ByteArray} {ks : List Ty} {deep c : Int} (h : (!tyBad1 c deep d && !tyBad2 k d n ks.length) = true) : deep ≤ 200 ∧ c + 1 ≤ 20000 ∧ (Ty.mk k d n ks).fault deep (20000 - c) = Ty.faults ks (deep + 1) (20000 - c - 1) := by
  simp only [tyBad1, tyBad2] at h
  by_cases hk : k = 1 ∨ k = 2
  · rw [if_pos hk] at h
    simp at h
    obtain ⟨⟨h1, h2, h3⟩, hn, hks⟩ := h
    subst hks
    refine ⟨by omega, by omega, ?_⟩
    rw [Ty.fault, if_neg (by omega), if_pos hk]
    simp [Ty.faults, hn]
    omega
  · rw [if_neg hk] at h
    by_cases hk3 : k = 3
    · rw [if_pos hk3] at h
      simp at h
      obtain ⟨⟨h1, h2, h3⟩, hd, hn⟩ := h
      refine ⟨by omega, by omega, ?_⟩
      rw [Ty.fault, if_neg (by omega), if_neg hk, if_pos hk3, if_neg (by simp [hd, hn])]
    · rw [if_neg hk3] at h
      simp at h
theorem tyBad_deep {k d : Int} {n : ByteArray} {ks : List Ty} {deep left : Int} (h : ((Ty.mk k d n ks).fault deep left).1 = false) : deep ≤ 200 := by
  rw [Ty.fault] at h
  split at h
  · cases h
  · omega

set_option maxRecDepth 100000 in
theorem ImplTF_of (k d : Int) (n : ByteArray) (ks : List Ty) (hn : ks.length ≤ 140737488351232) (ih : ∀ x ∈ ks, ImplTF x) : ImplTF (.mk k d n ks) := by
  intro W0 w cs b off deep c h hc ts h0 h1 h2 h3
  obtain ⟨A, cp, rfl, _, _, h4⟩ := Ty.open_ h
  have IH := Lib.hid ih
  have c0 : ∀ w', Below W0.heap.size W0 w' → w'.cell? ⟨b, off, none⟩ = some (.int .i64 k) := fun w' hb => cell_below hb (hc 0 _ rfl)
  have c1 : ∀ w', Below W0.heap.size W0 w' → w'.cell? ⟨b, off + 1, none⟩ = some (.int .i64 d) := fun w' hb => cell_below hb (hc 1 _ rfl)
  have c2 : ∀ w', Below W0.heap.size W0 w' → w'.cell? ⟨b, off + 2, none⟩ = some (.string n) := fun w' hb => cell_below hb (hc 2 _ rfl)
  have c3 : ∀ w', Below W0.heap.size W0 w' → w'.cell? ⟨b, off + 3, none⟩ = some (.slice A ks.length cp) := fun w' hb => cell_below hb (hc 3 _ rfl)
  have C0 := Lib.hid c0
  have C1 := Lib.hid c1
  have C2 := Lib.hid c2
  have C3 := Lib.hid c3
  have H4 := Lib.hid h4
  have T0 := Lib.hid ts
  have T1 := Lib.hid (ts.count (c + 1))
  have v0 := blk_cell ts.cnt 0
  have f0 := blk_frozen ts.cnt 0
  have v1 := blk_cell T1.out.cnt 0
  have k1 := C1.out _ T1.out.below
  simp at v0 f0 v1
  clear ih h hc ts c0 c1 c2 c3 h4
  go_enter Try.func116, Try.ntmps116
  go_upto_region 1 with fail
  go_cut [28] from 9 (fun v wx => v = .bool (tyBad1 c deep d) ∧ Ts W0 (c + 1) true wx)
  case first =>
    go_wp2_with fail
    all_goals go_meet
    all_goals exact ⟨congrArg Value.bool (by simp [tyBad1, Bool.or_assoc] <;> omega), T1.out⟩
  case rest =>
    obtain ⟨rfl, hts⟩ := hcut
    have TA := Lib.hid hts
    have TB := Lib.hid hts.bad
    have g0 := blk_cell hts.good 0
    have gf := blk_frozen hts.good 0
    simp at g0 gf
    have G1 : ∀ x : Bool, x = tyBad1 c deep d → Hid (x = tyBad1 c deep d) := fun _ h => h
    obtain ⟨g1, hg1⟩ : ∃ g1, g1 = tyBad1 c deep d := ⟨_, rfl⟩
    rw [← hg1]
    have HG1 := Lib.hid hg1
    clear hts hg1 G1 T0 T1 v0 f0 v1 k1
    go_upto_if 28 with fail
    go_cut [] from 9 (fun wx => Ts W0 (c + 1) (!g1) wx)
    case first =>
      cases g1
      · go_wp2_with fail
        go_meet
        exact TA.out
      · go_wp2_with fail
        go_meet
        exact TB.out
    case rest =>
      have TA := Lib.hid hcut
      have TB := Lib.hid hcut.bad
      have g0 := blk_cell hcut.good 0
      have gf := blk_frozen hcut.good 0
      have z0 := C0.out _ hcut.below
      have z1 := C1.out _ hcut.below
      have z2 := C2.out _ hcut.below
      have z3 := C3.out _ hcut.below
      simp at g0 gf
      clear hcut
      go_upto_block 0 with fail
      go_cut [] from 9 (fun wx => Ts W0 (c + 1) (!g1 && !tyBad2 k d n ks.length) wx)
      case first =>
        go_wp2_with fail
        all_goals go_meet
        all_goals first
          | (have hb : tyBad2 k d n ks.length = false := by (simp_all [tyBad2]; done)
             rw [hb]; simpa using TA.out)
          | (have hb : tyBad2 k d n ks.length = true := by (simp_all [tyBad2]; done)
             rw [hb]; simpa using TB.out)
      case rest =>
        have START : Hid (∃ (c' : Int) (g : Bool), Ts W0 c' g wc ∧ ((g = false ∧ ((Ty.mk k d n ks).fault deep (20000 - c)).1 = true) ∨ (g = true ∧ deep ≤ 200 ∧ 0 ≤ c' ∧ c' ≤ 20000 ∧ (Ty.mk k d n ks).fault deep (20000 - c) = Ty.faults (ks.drop 0) (deep + 1) (20000 - c')))) := by
          have hg := HG1.out
          cases hb : (!g1 && !tyBad2 k d n ks.length) with
          | false => exact ⟨c + 1, false, by rw [← hb]; exact hcut, .inl ⟨rfl, tyBad_true (by rw [← hg]; exact hb)⟩⟩
          | true =>
            have hq := tyBad_false (by rw [← hg]; exact hb)
            exact ⟨c + 1, true, by rw [← hb]; exact hcut, .inr ⟨rfl, hq.1, by omega, hq.2.1, by rw [hq.2.2]; simp; congr 1; omega⟩⟩
        have z3 := C3.out _ hcut.below
        clear hcut HG1
        go_wp2_with fail
        go_loopw [76] (fun i wr => ∃ j : Nat, j ≤ ks.length ∧ i = .int .i64 j ∧ Hid (∃ (c' : Int) (g : Bool), Ts W0 c' g wr ∧ ((g = false ∧ ((Ty.mk k d n ks).fault deep (20000 - c)).1 = true) ∨ (g = true ∧ deep ≤ 200 ∧ 0 ≤ c' ∧ c' ≤ 20000 ∧ (Ty.mk k d n ks).fault deep (20000 - c) = Ty.faults (ks.drop j) (deep + 1) (20000 - c'))))) (fun i _ => ks.length - (intOf i).toNat)
        case atStart => exact ⟨0, Nat.zero_le _, rfl, START.out⟩
        case round =>
          obtain ⟨j, hj, rfl, hrel⟩ := hrel
          obtain ⟨c', g, tsr, hcase⟩ := hrel.out
          have z3 := C3.out _ tsr.below
          have g0 := blk_cell tsr.good 0
          simp at g0
          have TR := Lib.hid tsr
          clear tsr hrel START
          by_cases hlt : j < ks.length
          · rcases hcase with ⟨rfl, hF⟩ | ⟨rfl, hdeep, hc0, hc1, hF⟩
            · have HF := Lib.hid hF
              clear hF
              go_wp2_with fail
              refine bodyPost_ret (results_none rfl _ _ _) rfl ?_
              exact ⟨rfl, c', by rw [HF.out]; exact TR.out, fun h => by rw [HF.out] at h; cases h⟩
            · obtain ⟨b', off', es, rfl, hcl, hrd, hc⟩ := H4.out.get (i := j) (x := ks[j].enc) (by simp [Ty.encs_map, List.getElem?_eq_getElem hlt])
              have CAL := Lib.hid (IH.out _ (List.getElem_mem hlt) W0 wr _ b' (off' + j * 4) (deep + 1) c' hrd hc TR.out hc0 hc1 (by omega) (by omega))
              have SM := Lib.hid (hF.trans (Ty.faults_next hlt))
              have LF := Lib.hid (Ty.fault_left ks[j] (deep + 1) (20000 - c'))
              clear hrd hcl hc hF
              generalize ks[j].fault (deep + 1) (20000 - c') = q at *
              go_wp2_with fail
              refine CAL.out.mono ?_
              rintro e w1 ⟨rfl, c'', ts2, hle⟩
              have TS2 := Lib.hid ts2
              have HLE := Lib.hid hle
              clear ts2 hle CAL
              go_wp2
              go_roundw
              case rel =>
                refine ⟨j + 1, by omega, by go_num, Lib.hid ⟨c'', _, TS2.out, ?_⟩⟩
                have sm := SM.out
                have lf := LF.out
                have le := HLE.out
                obtain ⟨q, l⟩ := q
                cases q with
                | true => exact .inl ⟨rfl, by rw [sm]; rfl⟩
                | false =>
                  have h1 := lf rfl
                  have h2 := le rfl
                  simp only at h1 h2
                  refine .inr ⟨rfl, hdeep, by omega, by omega, ?_⟩
                  rw [sm, h2, show (20000 : Int) - (20000 - l) = l by omega]
                  rfl
              case measure => simp [intOf]; omega
          · obtain rfl : j = ks.length := by omega
            have HC := Lib.hid hcase
            clear hcase
            go_wp2_with fail
            go_end0
            rcases HC.out with ⟨rfl, hF⟩ | ⟨rfl, hdeep, hc0, hc1, hF⟩
            · exact ⟨rfl, c', by rw [hF]; exact TR.out, fun h => by rw [hF] at h; cases h⟩
            · rw [List.drop_length, Ty.faults] at hF
              exact ⟨rfl, c', by rw [hF]; exact TR.out, fun _ => by rw [hF]; show c' = 20000 - (20000 - c'); omega⟩

theorem ImplTF_all : ∀ (x : Ty), x.ok → ImplTF x :=
  Ty.induct fun k d n ks ih h => by
    simp only [Ty.ok] at h
    exact ImplTF_of k d n ks h.2.2.2.1 fun x hx => ih x hx (Ty.oks_mem h.2.2.2.2 x hx)

set_option maxRecDepth 100000 in
theorem specTypeFault (x : Ty) (hx : x.ok) (w : World) (cs : List Value) (h : Rd w x.enc cs) :
    Calls Try.prog 51 #[.agg cs.toArray] w fun e w' => e = .returned (.bool (x.fault 1 20000).1) ∧ Below w.heap.size w w' := by
  obtain ⟨u0, u1, u2, u3, rfl⟩ := cells4 (h.len.trans x.n)
  have hb0 : Below w.heap.size w (w.alloc (.cells #[u0, u1, u2, u3] 30)) := (Below.refl _ _).alloc (Nat.le_refl _) _
  have hb1 : Below w.heap.size w ((w.alloc (.cells #[u0, u1, u2, u3] 30)).alloc (.cells #[.int .i64 20000] 2)) := hb0.alloc (by simp) _
  have CAL := SpecTF_all x hx (w.alloc (.cells #[u0, u1, u2, u3] 30)) ((w.alloc (.cells #[u0, u1, u2, u3] 30)).alloc (.cells #[.int .i64 20000] 2)) _ 1 20000 (h.below hb0) ⟨(Below.refl _ _).alloc (Nat.le_refl _) _, blk_new _ _⟩ (by omega) (by omega) (by omega) (by omega)
  have CAL := Lib.hid CAL
  have HB := Lib.hid hb0
  clear h hb0 hb1
  go_enter Try.func51, Try.ntmps51
  go_wp2_with fail
  refine (by simpa using CAL.out : Calls _ _ _ _ _).mono ?_
  rintro e w1 ⟨rfl, tl, _⟩
  have T := Lib.hid tl
  clear tl CAL
  go_wp2
  go_ret
  exact ⟨rfl, HB.out.trans (T.out.below.mono (by simp))⟩

set_option maxRecDepth 100000 in
theorem implTypeFault (x : Ty) (hx : x.ok) (w : World) (cs : List Value) (h : Rd w x.enc cs) :
    Calls Try.prog 63 #[.agg cs.toArray] w fun e w' => e = .returned (.bool (x.fault 1 20000).1) ∧ Below w.heap.size w w' := by
  obtain ⟨u0, u1, u2, u3, rfl⟩ := cells4 (h.len.trans x.n)
  have hb0 : Below w.heap.size w (w.alloc (.cells #[u0, u1, u2, u3] 30)) := (Below.refl _ _).alloc (Nat.le_refl _) _
  have hcell : CellsAt (w.alloc (.cells #[u0, u1, u2, u3] 30)) w.heap.size 0 [u0, u1, u2, u3] := fun j u hj => by
    have := blk_cell (blk_new w (.cells #[u0, u1, u2, u3] 30)) (0 + j)
    rw [this]
    simpa using hj
  have ts : Ts (w.alloc (.cells #[u0, u1, u2, u3] 30)) 0 true (((w.alloc (.cells #[u0, u1, u2, u3] 30)).alloc (.cells #[.int .i64 0] 3)).alloc (.cells #[.bool true] 4)) :=
    ⟨((Below.refl _ _).alloc (Nat.le_refl _) _).alloc (by simp) _, blk_old (blk_new _ _) _, by have := blk_new ((w.alloc (.cells #[u0, u1, u2, u3] 30)).alloc (.cells #[.int .i64 0] 3)) (.cells #[.bool true] 4); simpa using this⟩
  have CAL := ImplTF_all x hx (w.alloc (.cells #[u0, u1, u2, u3] 30)) _ _ _ _ 1 0 (h.below hb0) hcell ts (by omega) (by omega) (by omega) (by omega)
  have CAL := Lib.hid CAL
  have HB := Lib.hid hb0
  clear h hb0 hcell ts
  go_enter Try.func63, Try.ntmps63
  go_wp2_with fail
  refine (by simpa using CAL.out : Calls _ _ _ _ _).mono ?_
  rintro e w1 ⟨rfl, c', ts, _⟩
  have T := Lib.hid ts
  have g0 := blk_cell ts.good 0
  simp at g0
  clear ts CAL
  go_wp2
  go_ret
  exact ⟨by simp, HB.out.trans (T.out.below.mono (by simp))⟩

end Go.Proofs.Ytbbpkjcmbakfeaa
