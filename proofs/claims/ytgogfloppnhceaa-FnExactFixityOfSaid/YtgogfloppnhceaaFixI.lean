/- The program's 'FixityOf' on tables of fixities as data; no condition. -/
import Derived.Test.YtgogfloppnhceaaFixF
import Derived.Test.YtgogfloppnhceaaLawFixityOf
namespace Go.Proofs.Ytgogfloppnhceaa
open Go.RowKit
set_option linter.unusedVariables false
set_option linter.unusedSimpArgs false

set_option maxRecDepth 100000 in
theorem implFixityOf (l : List Fx) (s : ByteArray) (hn : l.length ≤ 140737488351232) (w : World) (v : Value) (h : Rd w (.slice 3 (fxs l)) [v]) :
    Calls Try.prog 34 #[v, .string s] w fun e w' => ∃ cs', e = .returned (.agg cs'.toArray) ∧ Fr w.heap.size w' (fixityOf l s).enc cs' ∧ Below w.heap.size w w' := by
  obtain ⟨A, c, rfl, _, _, hr⟩ := rd_slice1 h
  rw [fxs_length]
  have H := Lib.hid hr
  clear h hr
  have fin : ∀ (x : Fx) (w' : World), Fr w.heap.size w' x.enc [.string x.name, .int .i64 x.side, .int .i64 x.level] := fun x w' => by
    rw [Fx.enc, fr_struct]
    exact frF_str (frF_int (frF_int (frF_nil _ _)))
  have FIN := Lib.hid fin
  have S0 := Lib.hid (blk_new w (.cells #[.string ⟨#[]⟩, .int .i64 0, .int .i64 0] 54))
  clear fin
  go_enter Try.func34, Try.ntmps34
  go_wp2_with fail
  go_loopw [9] (fun i wr => ∃ j : Nat, j ≤ l.length ∧ i = .int .i64 j ∧ Below w.heap.size w wr ∧ Hid (wr.heap[w.heap.size]? = some (.cells #[.string ⟨#[]⟩, .int .i64 0, .int .i64 0] 54 (0, 0))) ∧ Hid (fixityOf l s = fixityOf (l.drop j) s)) (fun i _ => l.length - (intOf i).toNat)
  case atStart => exact ⟨0, Nat.zero_le _, rfl, (Below.refl _ _).alloc (Nat.le_refl _) _, S0.out, rfl⟩
  case round =>
    obtain ⟨j, hj, rfl, hb, hblk, hf⟩ := hrel
    have hblk := hblk.out
    have z0 := blk_cell hblk 0
    have z1 := blk_cell hblk 1
    have z2 := blk_cell hblk 2
    have y0 := blk_frozen hblk 0
    have y1 := blk_frozen hblk 1
    have y2 := blk_frozen hblk 2
    simp at z0 z1 z2 y0 y1 y2
    by_cases hlt : j < l.length
    · obtain ⟨b, off, cs, rfl, hcl, hrd, hc⟩ := (RdRow.below H.out (by omega) hb).get (i := j) (x := l[j].enc) (by simp [fxs, List.getElem?_eq_getElem hlt])
      obtain rfl := openFx hrd
      have c0 : wr.cell? ⟨b, off + j * 3, none⟩ = some (.string l[j].name) := hc 0 _ rfl
      have c1 : wr.cell? ⟨b, off + j * 3 + 1, none⟩ = some (.int .i64 l[j].side) := hc 1 _ rfl
      have c2 : wr.cell? ⟨b, off + j * 3 + 2, none⟩ = some (.int .i64 l[j].level) := hc 2 _ rfl
      have HF := Lib.hid hf
      have HB := Lib.hid hb
      have HK := Lib.hid hblk
      have hlt' := blk_lt hblk
      have al : Below wr.heap.size wr (wr.alloc (.cells #[.string l[j].name, .int .i64 l[j].side, .int .i64 l[j].level] 54)) := (Below.refl _ _).alloc (Nat.le_refl _) _
      have NEXT := Lib.hid (fixityOf_next hlt hf.out)
      have FOUND := Lib.hid (fixityOf_found hlt hf.out)
      have HB1 := Lib.hid (hb.alloc (by omega) (.cells #[.string l[j].name, .int .i64 l[j].side, .int .i64 l[j].level] 54))
      have HK := Lib.hid (blk_below hblk al)
      have S1 := Lib.hid (blk_new wr (.cells #[.string l[j].name, .int .i64 l[j].side, .int .i64 l[j].level] 54))
      have SZ : Hid (w.heap.size < wr.heap.size) := hlt'
      clear z0 z1 z2 y0 y1 y2
      have z0 := blk_cell HK.out 0
      have z1 := blk_cell HK.out 1
      have z2 := blk_cell HK.out 2
      have y0 := blk_frozen HK.out 0
      have y1 := blk_frozen HK.out 1
      have y2 := blk_frozen HK.out 2
      have q0 := blk_cell S1.out 0
      have q1 := blk_cell S1.out 1
      have q2 := blk_cell S1.out 2
      simp at z0 z1 z2 y0 y1 y2 q0 q1 q2
      clear hcl hc hrd hf hb hblk S0 H al hlt'
      generalize l[j] = x at *
      cases he : (x.name.toList == s.toList)
      rotate_left
      · go_wp2_with (refine wpl_store_new rfl 54 (.tmp 6) (.tmp 12) rfl _ #[.string x.name, .int .i64 x.side, .int .i64 x.level] rfl rfl (infoSzFixity) rfl rfl ?_)
        refine bodyPost_ret (v := .agg #[.string x.name, .int .i64 x.side, .int .i64 x.level]) (by simp [results, Try.results34, go_sem, z0, z1, z2]) rfl ⟨[.string x.name, .int .i64 x.side, .int .i64 x.level], rfl, ?_, ?_⟩
        · rw [FOUND.out he]
          exact FIN.out x _
        · exact ((HB1.out.setCell (by simp) _).setCell (by simp) _).setCell (by simp) _
      · go_wp2_with (refine wpl_store_new rfl 54 (.tmp 6) (.tmp 12) rfl _ #[.string x.name, .int .i64 x.side, .int .i64 x.level] rfl rfl (infoSzFixity) rfl rfl ?_)
        go_roundw
        case rel => exact ⟨j + 1, by omega, by go_num, HB1.out, HK.out, NEXT.out he⟩
        case measure => simp [intOf]; omega
    · obtain rfl : j = l.length := by omega
      have HF := Lib.hid hf
      have HB := Lib.hid hb
      clear hf hb hblk S0 H
      have END := Lib.hid (show fixityOf l s = if (s.toList == [58]) = true then ⟨s, 2, 5⟩ else ⟨s, 1, 9⟩ by have := HF.out.out; rw [List.drop_length] at this; rw [this]; rfl)
      cases hs : (s.toList == [58])
      rotate_left
      · have END := Lib.hid (END.out.trans (if_pos hs))
        go_wp2
        refine bodyPost_ret (v := .agg #[.string s, .int .i64 2, .int .i64 5]) (by simp [results, Try.results34, go_sem, z0, z1, z2]) rfl ⟨[.string s, .int .i64 2, .int .i64 5], rfl, ?_, ?_⟩
        · rw [END.out]
          exact FIN.out ⟨s, 2, 5⟩ _
        · exact ((HB.out.setCell (by simp) _).setCell (by simp) _).setCell (by simp) _
      · have END := Lib.hid (END.out.trans (if_neg (by rw [hs]; decide)))
        go_wp2
        refine bodyPost_ret (v := .agg #[.string s, .int .i64 1, .int .i64 9]) (by simp [results, Try.results34, go_sem, z0, z1, z2]) rfl ⟨[.string s, .int .i64 1, .int .i64 9], rfl, ?_, ?_⟩
        · rw [END.out]
          exact FIN.out ⟨s, 1, 9⟩ _
        · exact ((HB.out.setCell (by simp) _).setCell (by simp) _).setCell (by simp) _


end Go.Proofs.Ytgogfloppnhceaa
