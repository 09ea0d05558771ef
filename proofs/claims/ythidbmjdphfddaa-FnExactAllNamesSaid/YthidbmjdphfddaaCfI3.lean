/- The program's shape of a core term: the methods of most kinds; no condition. -/
import Derived.Test.YthidbmjdphfddaaCfI2
namespace Go.Proofs.Ythidbmjdphfddaa
open Go Go.RowKit
set_option linter.unusedVariables false
set_option linter.unusedSimpArgs false

section
variable {W0 w : World} {b off : Nat} {n : ByteArray} {m : Bool} {l : List Int} {ns : List ByteArray} {nk : Nat} {qs : List Ca} {AL AN AK AA : Option Addr} {cL cN cK cA : Nat}
set_option maxRecDepth 100000 in
theorem fits1 (A : At W0 b off 1 n m l.length ns.length nk qs.length AL AN AK AA cL cN cK cA) (hb : Below W0.heap.size W0 w) :
    Calls Try.prog 214 #[.agg #[.pointer (some ⟨b, off, none⟩)]] w (Says (fitP 1 n m l ns nk qs) w) := by
  have FIT : Hid (fitP 1 n m l ns nk qs ↔ (n.toList ≠ [] ∧ (ns.length == 0 && (qs.length == 0 && nk == 0)) = true ∧ (!m && l.length == 0) = true)) := by
    show _ ↔ _
    constructor
    · intro h
      simp [fitP] at h
      simp [h]
    · intro h
      simp at h
      simp [fitP, h]
  have AD := Lib.hid A
  have HC0 := Lib.hid (below_al hb hb.size (.cells #[.pointer (some ⟨b, off, none⟩)] 234))
  have HB0 := Lib.hid (below_alloc1 w (.cells #[.pointer (some ⟨b, off, none⟩)] 234))
  have BX0 := Lib.hid (blk_new w (.cells #[.pointer (some ⟨b, off, none⟩)] 234))
  clear A hb
  have y1 := AD.out.c1 _ HC0.out
  have y4 := AD.out.c4 _ HC0.out
  have y5 := AD.out.c5 _ HC0.out
  obtain ⟨z_leaf, q_leaf⟩ : ∃ z, (ns.length == 0 && (qs.length == 0 && nk == 0)) = z := ⟨_, rfl⟩
  obtain ⟨z_nob, q_nob⟩ : ∃ z, (!m && l.length == 0) = z := ⟨_, rfl⟩
  cases hn : n.toList.isEmpty
  · have F_ne := Lib.hid (emp_f hn)
    cases z_leaf
    · have Q_leaf := Lib.hid q_leaf
      have F_leaf := Lib.hid q_leaf
      clear q_leaf
      go_enter Try.func214, Try.ntmps214
      go_wp2_with fail
      refine (cLeaf AD.out HC0.out false Q_leaf.out).mono ?_
      rintro e w1 ⟨rfl, hb1⟩
      have HB1 := Lib.hid (HB0.out.trans (hb1.mono HB0.out.size))
      have HC1 := Lib.hid (HC0.out.trans (hb1.mono HC0.out.size))
      have BX1 := Lib.hid (blk_below BX0.out hb1)
      have z0 : World.cell? w1 ⟨w.heap.size, 0, none⟩ = some (.pointer (some ⟨b, off, none⟩)) := (blk_cell BX1.out 0).trans rfl
      have y1 := AD.out.c1 _ HC1.out
      have y2 := AD.out.c2 _ HC1.out
      have y3 := AD.out.c3 _ HC1.out
      have y4 := AD.out.c4 _ HC1.out
      have y5 := AD.out.c5 _ HC1.out
      clear hb1
      go_wp2_with fail
      go_ret
      refine says_of ?_ HB1.out
      rw [FIT.out]
      have F_ne' := F_ne.out
      have F_leaf' := F_leaf.out
      simp only [F_ne', F_leaf']
      try simp [F_ne']
    · have Q_leaf := Lib.hid q_leaf
      have F_leaf := Lib.hid q_leaf
      clear q_leaf
      cases z_nob
      · have Q_nob := Lib.hid q_nob
        have F_nob := Lib.hid q_nob
        clear q_nob
        go_enter Try.func214, Try.ntmps214
        go_wp2_with fail
        refine (cLeaf AD.out HC0.out true Q_leaf.out).mono ?_
        rintro e w1 ⟨rfl, hb1⟩
        have HB1 := Lib.hid (HB0.out.trans (hb1.mono HB0.out.size))
        have HC1 := Lib.hid (HC0.out.trans (hb1.mono HC0.out.size))
        have BX1 := Lib.hid (blk_below BX0.out hb1)
        have z0 : World.cell? w1 ⟨w.heap.size, 0, none⟩ = some (.pointer (some ⟨b, off, none⟩)) := (blk_cell BX1.out 0).trans rfl
        have y1 := AD.out.c1 _ HC1.out
        have y2 := AD.out.c2 _ HC1.out
        have y3 := AD.out.c3 _ HC1.out
        have y4 := AD.out.c4 _ HC1.out
        have y5 := AD.out.c5 _ HC1.out
        clear hb1
        go_wp2_with fail
        refine (cNoNumber AD.out HC1.out false Q_nob.out).mono ?_
        rintro e w2 ⟨rfl, hb1⟩
        have HB2 := Lib.hid (HB1.out.trans (hb1.mono HB1.out.size))
        have HC2 := Lib.hid (HC1.out.trans (hb1.mono HC1.out.size))
        have BX2 := Lib.hid (blk_below BX1.out hb1)
        have z0 : World.cell? w2 ⟨w.heap.size, 0, none⟩ = some (.pointer (some ⟨b, off, none⟩)) := (blk_cell BX2.out 0).trans rfl
        have y1 := AD.out.c1 _ HC2.out
        have y2 := AD.out.c2 _ HC2.out
        have y3 := AD.out.c3 _ HC2.out
        have y4 := AD.out.c4 _ HC2.out
        have y5 := AD.out.c5 _ HC2.out
        clear hb1
        go_wp2_with fail
        go_ret
        refine says_of ?_ HB2.out
        rw [FIT.out]
        have F_ne' := F_ne.out
        have F_leaf' := F_leaf.out
        have F_nob' := F_nob.out
        simp only [F_ne', F_leaf', F_nob']
        try simp [F_ne']
      · have Q_nob := Lib.hid q_nob
        have F_nob := Lib.hid q_nob
        clear q_nob
        go_enter Try.func214, Try.ntmps214
        go_wp2_with fail
        refine (cLeaf AD.out HC0.out true Q_leaf.out).mono ?_
        rintro e w1 ⟨rfl, hb1⟩
        have HB1 := Lib.hid (HB0.out.trans (hb1.mono HB0.out.size))
        have HC1 := Lib.hid (HC0.out.trans (hb1.mono HC0.out.size))
        have BX1 := Lib.hid (blk_below BX0.out hb1)
        have z0 : World.cell? w1 ⟨w.heap.size, 0, none⟩ = some (.pointer (some ⟨b, off, none⟩)) := (blk_cell BX1.out 0).trans rfl
        have y1 := AD.out.c1 _ HC1.out
        have y2 := AD.out.c2 _ HC1.out
        have y3 := AD.out.c3 _ HC1.out
        have y4 := AD.out.c4 _ HC1.out
        have y5 := AD.out.c5 _ HC1.out
        clear hb1
        go_wp2_with fail
        refine (cNoNumber AD.out HC1.out true Q_nob.out).mono ?_
        rintro e w2 ⟨rfl, hb1⟩
        have HB2 := Lib.hid (HB1.out.trans (hb1.mono HB1.out.size))
        have HC2 := Lib.hid (HC1.out.trans (hb1.mono HC1.out.size))
        have BX2 := Lib.hid (blk_below BX1.out hb1)
        have z0 : World.cell? w2 ⟨w.heap.size, 0, none⟩ = some (.pointer (some ⟨b, off, none⟩)) := (blk_cell BX2.out 0).trans rfl
        have y1 := AD.out.c1 _ HC2.out
        have y2 := AD.out.c2 _ HC2.out
        have y3 := AD.out.c3 _ HC2.out
        have y4 := AD.out.c4 _ HC2.out
        have y5 := AD.out.c5 _ HC2.out
        clear hb1
        go_wp2_with fail
        go_ret
        refine says_of ?_ HB2.out
        rw [FIT.out]
        have F_ne' := F_ne.out
        have F_leaf' := F_leaf.out
        have F_nob' := F_nob.out
        simp only [F_ne', F_leaf', F_nob']
        try simp [F_ne']
  · have F_ne := Lib.hid (emp_t hn)
    go_enter Try.func214, Try.ntmps214
    go_wp2_with fail
    go_ret
    refine says_of ?_ HB0.out
    rw [FIT.out]
    have F_ne' := F_ne.out
    simp only [F_ne']
    try simp [F_ne']
set_option maxRecDepth 100000 in
theorem fits2 (A : At W0 b off 2 n m l.length ns.length nk qs.length AL AN AK AA cL cN cK cA) (hb : Below W0.heap.size W0 w) (hl : l.length ≤ 140737488351232) (hd : Rd W0 (bigD m l) [.bool m, .slice AL l.length cL]) :
    Calls Try.prog 218 #[.agg #[.pointer (some ⟨b, off, none⟩)]] w (Says (fitP 2 n m l ns nk qs) w) := by
  have FIT : Hid (fitP 2 n m l ns nk qs ↔ (n.toList = [] ∧ (ns.length == 0 && (qs.length == 0 && nk == 0)) = true ∧ bigFault m l = false)) := by
    show _ ↔ _
    constructor
    · intro h
      simp [fitP] at h
      simp [h]
    · intro h
      simp at h
      simp [fitP, h]
  have AD := Lib.hid A
  have HC0 := Lib.hid (below_al hb hb.size (.cells #[.pointer (some ⟨b, off, none⟩)] 235))
  have HB0 := Lib.hid (below_alloc1 w (.cells #[.pointer (some ⟨b, off, none⟩)] 235))
  have BX0 := Lib.hid (blk_new w (.cells #[.pointer (some ⟨b, off, none⟩)] 235))
  clear A hb
  have BIG : Hid (∀ w1, Below W0.heap.size W0 w1 → Calls Try.prog 219 #[.agg #[.bool m, .slice AL l.length cL]] w1 (Ret (bigFault m l) w1)) := fun w1 h1 => implBigFault m l hl w1 _ (hd.below h1)
  clear hd hl
  have y1 := AD.out.c1 _ HC0.out
  have y4 := AD.out.c4 _ HC0.out
  have y5 := AD.out.c5 _ HC0.out
  obtain ⟨z_leaf, q_leaf⟩ : ∃ z, (ns.length == 0 && (qs.length == 0 && nk == 0)) = z := ⟨_, rfl⟩
  cases hn : n.toList.isEmpty
  · have F_em := Lib.hid (emp_f hn)
    go_enter Try.func218, Try.ntmps218
    go_wp2_with fail
    go_ret
    refine says_of ?_ HB0.out
    rw [FIT.out]
    have F_em' := F_em.out
    simp only [F_em']
    try simp
  · have F_em := Lib.hid (emp_t hn)
    cases z_leaf
    · have Q_leaf := Lib.hid q_leaf
      have F_leaf := Lib.hid q_leaf
      clear q_leaf
      go_enter Try.func218, Try.ntmps218
      go_wp2_with fail
      refine (cLeaf AD.out HC0.out false Q_leaf.out).mono ?_
      rintro e w1 ⟨rfl, hb1⟩
      have HB1 := Lib.hid (HB0.out.trans (hb1.mono HB0.out.size))
      have HC1 := Lib.hid (HC0.out.trans (hb1.mono HC0.out.size))
      have BX1 := Lib.hid (blk_below BX0.out hb1)
      have z0 : World.cell? w1 ⟨w.heap.size, 0, none⟩ = some (.pointer (some ⟨b, off, none⟩)) := (blk_cell BX1.out 0).trans rfl
      have y1 := AD.out.c1 _ HC1.out
      have y2 := AD.out.c2 _ HC1.out
      have y3 := AD.out.c3 _ HC1.out
      have y4 := AD.out.c4 _ HC1.out
      have y5 := AD.out.c5 _ HC1.out
      clear hb1
      go_wp2_with fail
      go_ret
      refine says_of ?_ HB1.out
      rw [FIT.out]
      have F_em' := F_em.out
      have F_leaf' := F_leaf.out
      simp only [F_em', F_leaf']
      try simp
    · have Q_leaf := Lib.hid q_leaf
      have F_leaf := Lib.hid q_leaf
      clear q_leaf
      cases g_big : bigFault m l
      · have F_big := Lib.hid g_big
        rw [g_big] at BIG
        clear g_big
        go_enter Try.func218, Try.ntmps218
        go_wp2_with fail
        refine (cLeaf AD.out HC0.out true Q_leaf.out).mono ?_
        rintro e w1 ⟨rfl, hb1⟩
        have HB1 := Lib.hid (HB0.out.trans (hb1.mono HB0.out.size))
        have HC1 := Lib.hid (HC0.out.trans (hb1.mono HC0.out.size))
        have BX1 := Lib.hid (blk_below BX0.out hb1)
        have z0 : World.cell? w1 ⟨w.heap.size, 0, none⟩ = some (.pointer (some ⟨b, off, none⟩)) := (blk_cell BX1.out 0).trans rfl
        have y1 := AD.out.c1 _ HC1.out
        have y2 := AD.out.c2 _ HC1.out
        have y3 := AD.out.c3 _ HC1.out
        have y4 := AD.out.c4 _ HC1.out
        have y5 := AD.out.c5 _ HC1.out
        clear hb1
        go_wp2_with fail
        refine (BIG.out _ HC1.out).mono ?_
        rintro e w2 ⟨rfl, hb1⟩
        have HB2 := Lib.hid (HB1.out.trans (hb1.mono HB1.out.size))
        have HC2 := Lib.hid (HC1.out.trans (hb1.mono HC1.out.size))
        have BX2 := Lib.hid (blk_below BX1.out hb1)
        have z0 : World.cell? w2 ⟨w.heap.size, 0, none⟩ = some (.pointer (some ⟨b, off, none⟩)) := (blk_cell BX2.out 0).trans rfl
        have y1 := AD.out.c1 _ HC2.out
        have y2 := AD.out.c2 _ HC2.out
        have y3 := AD.out.c3 _ HC2.out
        have y4 := AD.out.c4 _ HC2.out
        have y5 := AD.out.c5 _ HC2.out
        clear hb1
        go_wp2_with fail
        go_ret
        refine says_of ?_ HB2.out
        rw [FIT.out]
        have F_em' := F_em.out
        have F_leaf' := F_leaf.out
        have F_big' := F_big.out
        simp only [F_em', F_leaf', F_big']
        try simp
      · have F_big := Lib.hid g_big
        rw [g_big] at BIG
        clear g_big
        go_enter Try.func218, Try.ntmps218
        go_wp2_with fail
        refine (cLeaf AD.out HC0.out true Q_leaf.out).mono ?_
        rintro e w1 ⟨rfl, hb1⟩
        have HB1 := Lib.hid (HB0.out.trans (hb1.mono HB0.out.size))
        have HC1 := Lib.hid (HC0.out.trans (hb1.mono HC0.out.size))
        have BX1 := Lib.hid (blk_below BX0.out hb1)
        have z0 : World.cell? w1 ⟨w.heap.size, 0, none⟩ = some (.pointer (some ⟨b, off, none⟩)) := (blk_cell BX1.out 0).trans rfl
        have y1 := AD.out.c1 _ HC1.out
        have y2 := AD.out.c2 _ HC1.out
        have y3 := AD.out.c3 _ HC1.out
        have y4 := AD.out.c4 _ HC1.out
        have y5 := AD.out.c5 _ HC1.out
        clear hb1
        go_wp2_with fail
        refine (BIG.out _ HC1.out).mono ?_
        rintro e w2 ⟨rfl, hb1⟩
        have HB2 := Lib.hid (HB1.out.trans (hb1.mono HB1.out.size))
        have HC2 := Lib.hid (HC1.out.trans (hb1.mono HC1.out.size))
        have BX2 := Lib.hid (blk_below BX1.out hb1)
        have z0 : World.cell? w2 ⟨w.heap.size, 0, none⟩ = some (.pointer (some ⟨b, off, none⟩)) := (blk_cell BX2.out 0).trans rfl
        have y1 := AD.out.c1 _ HC2.out
        have y2 := AD.out.c2 _ HC2.out
        have y3 := AD.out.c3 _ HC2.out
        have y4 := AD.out.c4 _ HC2.out
        have y5 := AD.out.c5 _ HC2.out
        clear hb1
        go_wp2_with fail
        go_ret
        refine says_of ?_ HB2.out
        rw [FIT.out]
        have F_em' := F_em.out
        have F_leaf' := F_leaf.out
        have F_big' := F_big.out
        simp only [F_em', F_leaf', F_big']
        try simp
set_option maxRecDepth 100000 in
theorem fits3 (A : At W0 b off 3 n m l.length ns.length nk qs.length AL AN AK AA cL cN cK cA) (hb : Below W0.heap.size W0 w) :
    Calls Try.prog 220 #[.agg #[.pointer (some ⟨b, off, none⟩)]] w (Says (fitP 3 n m l ns nk qs) w) := by
  have FIT : Hid (fitP 3 n m l ns nk qs ↔ (n.size = 1 ∧ (ns.length == 0 && (qs.length == 0 && nk == 0)) = true ∧ (!m && l.length == 0) = true)) := by
    show _ ↔ _
    constructor
    · intro h
      simp [fitP] at h
      simp [h]
    · intro h
      simp at h
      simp [fitP, h]
  have AD := Lib.hid A
  have HC0 := Lib.hid (below_al hb hb.size (.cells #[.pointer (some ⟨b, off, none⟩)] 236))
  have HB0 := Lib.hid (below_alloc1 w (.cells #[.pointer (some ⟨b, off, none⟩)] 236))
  have BX0 := Lib.hid (blk_new w (.cells #[.pointer (some ⟨b, off, none⟩)] 236))
  clear A hb
  have y1 := AD.out.c1 _ HC0.out
  have y4 := AD.out.c4 _ HC0.out
  have y5 := AD.out.c5 _ HC0.out
  obtain ⟨z_leaf, q_leaf⟩ : ∃ z, (ns.length == 0 && (qs.length == 0 && nk == 0)) = z := ⟨_, rfl⟩
  obtain ⟨z_nob, q_nob⟩ : ∃ z, (!m && l.length == 0) = z := ⟨_, rfl⟩
  by_cases h_len1 : n.size = 1
  · have F_len1 := Lib.hid h_len1
    have q_len1 : ((n.size : Int) == 1) = true := by rw [beq_iff_eq]; omega
    clear h_len1
    cases z_leaf
    · have Q_leaf := Lib.hid q_leaf
      have F_leaf := Lib.hid q_leaf
      clear q_leaf
      go_enter Try.func220, Try.ntmps220
      go_wp2_with fail
      refine (cLeaf AD.out HC0.out false Q_leaf.out).mono ?_
      rintro e w1 ⟨rfl, hb1⟩
      have HB1 := Lib.hid (HB0.out.trans (hb1.mono HB0.out.size))
      have HC1 := Lib.hid (HC0.out.trans (hb1.mono HC0.out.size))
      have BX1 := Lib.hid (blk_below BX0.out hb1)
      have z0 : World.cell? w1 ⟨w.heap.size, 0, none⟩ = some (.pointer (some ⟨b, off, none⟩)) := (blk_cell BX1.out 0).trans rfl
      have y1 := AD.out.c1 _ HC1.out
      have y2 := AD.out.c2 _ HC1.out
      have y3 := AD.out.c3 _ HC1.out
      have y4 := AD.out.c4 _ HC1.out
      have y5 := AD.out.c5 _ HC1.out
      clear hb1
      go_wp2_with fail
      go_ret
      refine says_of ?_ HB1.out
      rw [FIT.out]
      have F_len1' := F_len1.out
      have F_leaf' := F_leaf.out
      simp only [F_len1', F_leaf']
      try simp
    · have Q_leaf := Lib.hid q_leaf
      have F_leaf := Lib.hid q_leaf
      clear q_leaf
      cases z_nob
      · have Q_nob := Lib.hid q_nob
        have F_nob := Lib.hid q_nob
        clear q_nob
        go_enter Try.func220, Try.ntmps220
        go_wp2_with fail
        refine (cLeaf AD.out HC0.out true Q_leaf.out).mono ?_
        rintro e w1 ⟨rfl, hb1⟩
        have HB1 := Lib.hid (HB0.out.trans (hb1.mono HB0.out.size))
        have HC1 := Lib.hid (HC0.out.trans (hb1.mono HC0.out.size))
        have BX1 := Lib.hid (blk_below BX0.out hb1)
        have z0 : World.cell? w1 ⟨w.heap.size, 0, none⟩ = some (.pointer (some ⟨b, off, none⟩)) := (blk_cell BX1.out 0).trans rfl
        have y1 := AD.out.c1 _ HC1.out
        have y2 := AD.out.c2 _ HC1.out
        have y3 := AD.out.c3 _ HC1.out
        have y4 := AD.out.c4 _ HC1.out
        have y5 := AD.out.c5 _ HC1.out
        clear hb1
        go_wp2_with fail
        refine (cNoNumber AD.out HC1.out false Q_nob.out).mono ?_
        rintro e w2 ⟨rfl, hb1⟩
        have HB2 := Lib.hid (HB1.out.trans (hb1.mono HB1.out.size))
        have HC2 := Lib.hid (HC1.out.trans (hb1.mono HC1.out.size))
        have BX2 := Lib.hid (blk_below BX1.out hb1)
        have z0 : World.cell? w2 ⟨w.heap.size, 0, none⟩ = some (.pointer (some ⟨b, off, none⟩)) := (blk_cell BX2.out 0).trans rfl
        have y1 := AD.out.c1 _ HC2.out
        have y2 := AD.out.c2 _ HC2.out
        have y3 := AD.out.c3 _ HC2.out
        have y4 := AD.out.c4 _ HC2.out
        have y5 := AD.out.c5 _ HC2.out
        clear hb1
        go_wp2_with fail
        go_ret
        refine says_of ?_ HB2.out
        rw [FIT.out]
        have F_len1' := F_len1.out
        have F_leaf' := F_leaf.out
        have F_nob' := F_nob.out
        simp only [F_len1', F_leaf', F_nob']
        try simp
      · have Q_nob := Lib.hid q_nob
        have F_nob := Lib.hid q_nob
        clear q_nob
        go_enter Try.func220, Try.ntmps220
        go_wp2_with fail
        refine (cLeaf AD.out HC0.out true Q_leaf.out).mono ?_
        rintro e w1 ⟨rfl, hb1⟩
        have HB1 := Lib.hid (HB0.out.trans (hb1.mono HB0.out.size))
        have HC1 := Lib.hid (HC0.out.trans (hb1.mono HC0.out.size))
        have BX1 := Lib.hid (blk_below BX0.out hb1)
        have z0 : World.cell? w1 ⟨w.heap.size, 0, none⟩ = some (.pointer (some ⟨b, off, none⟩)) := (blk_cell BX1.out 0).trans rfl
        have y1 := AD.out.c1 _ HC1.out
        have y2 := AD.out.c2 _ HC1.out
        have y3 := AD.out.c3 _ HC1.out
        have y4 := AD.out.c4 _ HC1.out
        have y5 := AD.out.c5 _ HC1.out
        clear hb1
        go_wp2_with fail
        refine (cNoNumber AD.out HC1.out true Q_nob.out).mono ?_
        rintro e w2 ⟨rfl, hb1⟩
        have HB2 := Lib.hid (HB1.out.trans (hb1.mono HB1.out.size))
        have HC2 := Lib.hid (HC1.out.trans (hb1.mono HC1.out.size))
        have BX2 := Lib.hid (blk_below BX1.out hb1)
        have z0 : World.cell? w2 ⟨w.heap.size, 0, none⟩ = some (.pointer (some ⟨b, off, none⟩)) := (blk_cell BX2.out 0).trans rfl
        have y1 := AD.out.c1 _ HC2.out
        have y2 := AD.out.c2 _ HC2.out
        have y3 := AD.out.c3 _ HC2.out
        have y4 := AD.out.c4 _ HC2.out
        have y5 := AD.out.c5 _ HC2.out
        clear hb1
        go_wp2_with fail
        go_ret
        refine says_of ?_ HB2.out
        rw [FIT.out]
        have F_len1' := F_len1.out
        have F_leaf' := F_leaf.out
        have F_nob' := F_nob.out
        simp only [F_len1', F_leaf', F_nob']
        try simp
  · have F_len1 := Lib.hid h_len1
    have q_len1 : ((n.size : Int) == 1) = false := by rw [beq_eq_false_iff_ne]; omega
    clear h_len1
    go_enter Try.func220, Try.ntmps220
    go_wp2_with fail
    go_ret
    refine says_of ?_ HB0.out
    rw [FIT.out]
    have F_len1' := F_len1.out
    simp only [F_len1']
    try simp
set_option maxRecDepth 100000 in
theorem fits4 (A : At W0 b off 4 n m l.length ns.length nk qs.length AL AN AK AA cL cN cK cA) (hb : Below W0.heap.size W0 w) :
    Calls Try.prog 221 #[.agg #[.pointer (some ⟨b, off, none⟩)]] w (Says (fitP 4 n m l ns nk qs) w) := by
  have FIT : Hid (fitP 4 n m l ns nk qs ↔ (n.toList ≠ [] ∧ (ns.length == 0) = true ∧ (qs.length == 0) = true ∧ (!m && l.length == 0) = true)) := by
    show _ ↔ _
    constructor
    · intro h
      simp [fitP] at h
      simp [h]
    · intro h
      simp at h
      simp [fitP, h]
  have AD := Lib.hid A
  have HC0 := Lib.hid (below_al hb hb.size (.cells #[.pointer (some ⟨b, off, none⟩)] 237))
  have HB0 := Lib.hid (below_alloc1 w (.cells #[.pointer (some ⟨b, off, none⟩)] 237))
  have BX0 := Lib.hid (blk_new w (.cells #[.pointer (some ⟨b, off, none⟩)] 237))
  clear A hb
  have y1 := AD.out.c1 _ HC0.out
  have y4 := AD.out.c4 _ HC0.out
  have y5 := AD.out.c5 _ HC0.out
  obtain ⟨z_nonames, q_nonames⟩ : ∃ z, (ns.length == 0) = z := ⟨_, rfl⟩
  obtain ⟨z_noalts, q_noalts⟩ : ∃ z, (qs.length == 0) = z := ⟨_, rfl⟩
  obtain ⟨z_nob, q_nob⟩ : ∃ z, (!m && l.length == 0) = z := ⟨_, rfl⟩
  cases hn : n.toList.isEmpty
  · have F_ne := Lib.hid (emp_f hn)
    cases z_nonames
    · have Q_nonames := Lib.hid q_nonames
      have F_nonames := Lib.hid q_nonames
      clear q_nonames
      go_enter Try.func221, Try.ntmps221
      go_wp2_with fail
      refine (cNoNames AD.out HC0.out false Q_nonames.out).mono ?_
      rintro e w1 ⟨rfl, hb1⟩
      have HB1 := Lib.hid (HB0.out.trans (hb1.mono HB0.out.size))
      have HC1 := Lib.hid (HC0.out.trans (hb1.mono HC0.out.size))
      have BX1 := Lib.hid (blk_below BX0.out hb1)
      have z0 : World.cell? w1 ⟨w.heap.size, 0, none⟩ = some (.pointer (some ⟨b, off, none⟩)) := (blk_cell BX1.out 0).trans rfl
      have y1 := AD.out.c1 _ HC1.out
      have y2 := AD.out.c2 _ HC1.out
      have y3 := AD.out.c3 _ HC1.out
      have y4 := AD.out.c4 _ HC1.out
      have y5 := AD.out.c5 _ HC1.out
      clear hb1
      go_wp2_with fail
      go_ret
      refine says_of ?_ HB1.out
      rw [FIT.out]
      have F_ne' := F_ne.out
      have F_nonames' := F_nonames.out
      simp only [F_ne', F_nonames']
      try simp [F_ne']
    · have Q_nonames := Lib.hid q_nonames
      have F_nonames := Lib.hid q_nonames
      clear q_nonames
      cases z_noalts
      · have Q_noalts := Lib.hid q_noalts
        have F_noalts := Lib.hid q_noalts
        clear q_noalts
        go_enter Try.func221, Try.ntmps221
        go_wp2_with fail
        refine (cNoNames AD.out HC0.out true Q_nonames.out).mono ?_
        rintro e w1 ⟨rfl, hb1⟩
        have HB1 := Lib.hid (HB0.out.trans (hb1.mono HB0.out.size))
        have HC1 := Lib.hid (HC0.out.trans (hb1.mono HC0.out.size))
        have BX1 := Lib.hid (blk_below BX0.out hb1)
        have z0 : World.cell? w1 ⟨w.heap.size, 0, none⟩ = some (.pointer (some ⟨b, off, none⟩)) := (blk_cell BX1.out 0).trans rfl
        have y1 := AD.out.c1 _ HC1.out
        have y2 := AD.out.c2 _ HC1.out
        have y3 := AD.out.c3 _ HC1.out
        have y4 := AD.out.c4 _ HC1.out
        have y5 := AD.out.c5 _ HC1.out
        clear hb1
        go_wp2_with fail
        refine (cNoAlts AD.out HC1.out false Q_noalts.out).mono ?_
        rintro e w2 ⟨rfl, hb1⟩
        have HB2 := Lib.hid (HB1.out.trans (hb1.mono HB1.out.size))
        have HC2 := Lib.hid (HC1.out.trans (hb1.mono HC1.out.size))
        have BX2 := Lib.hid (blk_below BX1.out hb1)
        have z0 : World.cell? w2 ⟨w.heap.size, 0, none⟩ = some (.pointer (some ⟨b, off, none⟩)) := (blk_cell BX2.out 0).trans rfl
        have y1 := AD.out.c1 _ HC2.out
        have y2 := AD.out.c2 _ HC2.out
        have y3 := AD.out.c3 _ HC2.out
        have y4 := AD.out.c4 _ HC2.out
        have y5 := AD.out.c5 _ HC2.out
        clear hb1
        go_wp2_with fail
        go_ret
        refine says_of ?_ HB2.out
        rw [FIT.out]
        have F_ne' := F_ne.out
        have F_nonames' := F_nonames.out
        have F_noalts' := F_noalts.out
        simp only [F_ne', F_nonames', F_noalts']
        try simp [F_ne']
      · have Q_noalts := Lib.hid q_noalts
        have F_noalts := Lib.hid q_noalts
        clear q_noalts
        cases z_nob
        · have Q_nob := Lib.hid q_nob
          have F_nob := Lib.hid q_nob
          clear q_nob
          go_enter Try.func221, Try.ntmps221
          go_wp2_with fail
          refine (cNoNames AD.out HC0.out true Q_nonames.out).mono ?_
          rintro e w1 ⟨rfl, hb1⟩
          have HB1 := Lib.hid (HB0.out.trans (hb1.mono HB0.out.size))
          have HC1 := Lib.hid (HC0.out.trans (hb1.mono HC0.out.size))
          have BX1 := Lib.hid (blk_below BX0.out hb1)
          have z0 : World.cell? w1 ⟨w.heap.size, 0, none⟩ = some (.pointer (some ⟨b, off, none⟩)) := (blk_cell BX1.out 0).trans rfl
          have y1 := AD.out.c1 _ HC1.out
          have y2 := AD.out.c2 _ HC1.out
          have y3 := AD.out.c3 _ HC1.out
          have y4 := AD.out.c4 _ HC1.out
          have y5 := AD.out.c5 _ HC1.out
          clear hb1
          go_wp2_with fail
          refine (cNoAlts AD.out HC1.out true Q_noalts.out).mono ?_
          rintro e w2 ⟨rfl, hb1⟩
          have HB2 := Lib.hid (HB1.out.trans (hb1.mono HB1.out.size))
          have HC2 := Lib.hid (HC1.out.trans (hb1.mono HC1.out.size))
          have BX2 := Lib.hid (blk_below BX1.out hb1)
          have z0 : World.cell? w2 ⟨w.heap.size, 0, none⟩ = some (.pointer (some ⟨b, off, none⟩)) := (blk_cell BX2.out 0).trans rfl
          have y1 := AD.out.c1 _ HC2.out
          have y2 := AD.out.c2 _ HC2.out
          have y3 := AD.out.c3 _ HC2.out
          have y4 := AD.out.c4 _ HC2.out
          have y5 := AD.out.c5 _ HC2.out
          clear hb1
          go_wp2_with fail
          refine (cNoNumber AD.out HC2.out false Q_nob.out).mono ?_
          rintro e w3 ⟨rfl, hb1⟩
          have HB3 := Lib.hid (HB2.out.trans (hb1.mono HB2.out.size))
          have HC3 := Lib.hid (HC2.out.trans (hb1.mono HC2.out.size))
          have BX3 := Lib.hid (blk_below BX2.out hb1)
          have z0 : World.cell? w3 ⟨w.heap.size, 0, none⟩ = some (.pointer (some ⟨b, off, none⟩)) := (blk_cell BX3.out 0).trans rfl
          have y1 := AD.out.c1 _ HC3.out
          have y2 := AD.out.c2 _ HC3.out
          have y3 := AD.out.c3 _ HC3.out
          have y4 := AD.out.c4 _ HC3.out
          have y5 := AD.out.c5 _ HC3.out
          clear hb1
          go_wp2_with fail
          go_ret
          refine says_of ?_ HB3.out
          rw [FIT.out]
          have F_ne' := F_ne.out
          have F_nonames' := F_nonames.out
          have F_noalts' := F_noalts.out
          have F_nob' := F_nob.out
          simp only [F_ne', F_nonames', F_noalts', F_nob']
          try simp [F_ne']
        · have Q_nob := Lib.hid q_nob
          have F_nob := Lib.hid q_nob
          clear q_nob
          go_enter Try.func221, Try.ntmps221
          go_wp2_with fail
          refine (cNoNames AD.out HC0.out true Q_nonames.out).mono ?_
          rintro e w1 ⟨rfl, hb1⟩
          have HB1 := Lib.hid (HB0.out.trans (hb1.mono HB0.out.size))
          have HC1 := Lib.hid (HC0.out.trans (hb1.mono HC0.out.size))
          have BX1 := Lib.hid (blk_below BX0.out hb1)
          have z0 : World.cell? w1 ⟨w.heap.size, 0, none⟩ = some (.pointer (some ⟨b, off, none⟩)) := (blk_cell BX1.out 0).trans rfl
          have y1 := AD.out.c1 _ HC1.out
          have y2 := AD.out.c2 _ HC1.out
          have y3 := AD.out.c3 _ HC1.out
          have y4 := AD.out.c4 _ HC1.out
          have y5 := AD.out.c5 _ HC1.out
          clear hb1
          go_wp2_with fail
          refine (cNoAlts AD.out HC1.out true Q_noalts.out).mono ?_
          rintro e w2 ⟨rfl, hb1⟩
          have HB2 := Lib.hid (HB1.out.trans (hb1.mono HB1.out.size))
          have HC2 := Lib.hid (HC1.out.trans (hb1.mono HC1.out.size))
          have BX2 := Lib.hid (blk_below BX1.out hb1)
          have z0 : World.cell? w2 ⟨w.heap.size, 0, none⟩ = some (.pointer (some ⟨b, off, none⟩)) := (blk_cell BX2.out 0).trans rfl
          have y1 := AD.out.c1 _ HC2.out
          have y2 := AD.out.c2 _ HC2.out
          have y3 := AD.out.c3 _ HC2.out
          have y4 := AD.out.c4 _ HC2.out
          have y5 := AD.out.c5 _ HC2.out
          clear hb1
          go_wp2_with fail
          refine (cNoNumber AD.out HC2.out true Q_nob.out).mono ?_
          rintro e w3 ⟨rfl, hb1⟩
          have HB3 := Lib.hid (HB2.out.trans (hb1.mono HB2.out.size))
          have HC3 := Lib.hid (HC2.out.trans (hb1.mono HC2.out.size))
          have BX3 := Lib.hid (blk_below BX2.out hb1)
          have z0 : World.cell? w3 ⟨w.heap.size, 0, none⟩ = some (.pointer (some ⟨b, off, none⟩)) := (blk_cell BX3.out 0).trans rfl
          have y1 := AD.out.c1 _ HC3.out
          have y2 := AD.out.c2 _ HC3.out
          have y3 := AD.out.c3 _ HC3.out
          have y4 := AD.out.c4 _ HC3.out
          have y5 := AD.out.c5 _ HC3.out
          clear hb1
          go_wp2_with fail
          go_ret
          refine says_of ?_ HB3.out
          rw [FIT.out]
          have F_ne' := F_ne.out
          have F_nonames' := F_nonames.out
          have F_noalts' := F_noalts.out
          have F_nob' := F_nob.out
          simp only [F_ne', F_nonames', F_noalts', F_nob']
          try simp [F_ne']
  · have F_ne := Lib.hid (emp_t hn)
    go_enter Try.func221, Try.ntmps221
    go_wp2_with fail
    go_ret
    refine says_of ?_ HB0.out
    rw [FIT.out]
    have F_ne' := F_ne.out
    simp only [F_ne']
    try simp [F_ne']
set_option maxRecDepth 100000 in
theorem fits5 (A : At W0 b off 5 n m l.length ns.length nk qs.length AL AN AK AA cL cN cK cA) (hb : Below W0.heap.size W0 w) :
    Calls Try.prog 222 #[.agg #[.pointer (some ⟨b, off, none⟩)]] w (Says (fitP 5 n m l ns nk qs) w) := by
  have FIT : Hid (fitP 5 n m l ns nk qs ↔ (n.toList = [] ∧ 2 ≤ nk ∧ (ns.length == 0) = true ∧ (qs.length == 0) = true ∧ (!m && l.length == 0) = true)) := by
    show _ ↔ _
    constructor
    · intro h
      simp [fitP] at h
      simp [h]
    · intro h
      simp at h
      simp [fitP, h]
  have AD := Lib.hid A
  have HC0 := Lib.hid (below_al hb hb.size (.cells #[.pointer (some ⟨b, off, none⟩)] 238))
  have HB0 := Lib.hid (below_alloc1 w (.cells #[.pointer (some ⟨b, off, none⟩)] 238))
  have BX0 := Lib.hid (blk_new w (.cells #[.pointer (some ⟨b, off, none⟩)] 238))
  clear A hb
  have y1 := AD.out.c1 _ HC0.out
  have y4 := AD.out.c4 _ HC0.out
  have y5 := AD.out.c5 _ HC0.out
  obtain ⟨z_nonames, q_nonames⟩ : ∃ z, (ns.length == 0) = z := ⟨_, rfl⟩
  obtain ⟨z_noalts, q_noalts⟩ : ∃ z, (qs.length == 0) = z := ⟨_, rfl⟩
  obtain ⟨z_nob, q_nob⟩ : ∃ z, (!m && l.length == 0) = z := ⟨_, rfl⟩
  cases hn : n.toList.isEmpty
  · have F_em := Lib.hid (emp_f hn)
    go_enter Try.func222, Try.ntmps222
    go_wp2_with fail
    go_ret
    refine says_of ?_ HB0.out
    rw [FIT.out]
    have F_em' := F_em.out
    simp only [F_em']
    try simp
  · have F_em := Lib.hid (emp_t hn)
    by_cases h_kids2 : 2 ≤ nk
    · have F_kids2 := Lib.hid h_kids2
      have q_kids2 : (2 : Int) ≤ (nk : Int) := by omega
      clear h_kids2
      cases z_nonames
      · have Q_nonames := Lib.hid q_nonames
        have F_nonames := Lib.hid q_nonames
        clear q_nonames
        go_enter Try.func222, Try.ntmps222
        go_wp2_with fail
        refine (cNoNames AD.out HC0.out false Q_nonames.out).mono ?_
        rintro e w1 ⟨rfl, hb1⟩
        have HB1 := Lib.hid (HB0.out.trans (hb1.mono HB0.out.size))
        have HC1 := Lib.hid (HC0.out.trans (hb1.mono HC0.out.size))
        have BX1 := Lib.hid (blk_below BX0.out hb1)
        have z0 : World.cell? w1 ⟨w.heap.size, 0, none⟩ = some (.pointer (some ⟨b, off, none⟩)) := (blk_cell BX1.out 0).trans rfl
        have y1 := AD.out.c1 _ HC1.out
        have y2 := AD.out.c2 _ HC1.out
        have y3 := AD.out.c3 _ HC1.out
        have y4 := AD.out.c4 _ HC1.out
        have y5 := AD.out.c5 _ HC1.out
        clear hb1
        go_wp2_with fail
        go_ret
        refine says_of ?_ HB1.out
        rw [FIT.out]
        have F_em' := F_em.out
        have F_kids2' := F_kids2.out
        have F_nonames' := F_nonames.out
        simp only [F_em', F_kids2', F_nonames']
        try simp
      · have Q_nonames := Lib.hid q_nonames
        have F_nonames := Lib.hid q_nonames
        clear q_nonames
        cases z_noalts
        · have Q_noalts := Lib.hid q_noalts
          have F_noalts := Lib.hid q_noalts
          clear q_noalts
          go_enter Try.func222, Try.ntmps222
          go_wp2_with fail
          refine (cNoNames AD.out HC0.out true Q_nonames.out).mono ?_
          rintro e w1 ⟨rfl, hb1⟩
          have HB1 := Lib.hid (HB0.out.trans (hb1.mono HB0.out.size))
          have HC1 := Lib.hid (HC0.out.trans (hb1.mono HC0.out.size))
          have BX1 := Lib.hid (blk_below BX0.out hb1)
          have z0 : World.cell? w1 ⟨w.heap.size, 0, none⟩ = some (.pointer (some ⟨b, off, none⟩)) := (blk_cell BX1.out 0).trans rfl
          have y1 := AD.out.c1 _ HC1.out
          have y2 := AD.out.c2 _ HC1.out
          have y3 := AD.out.c3 _ HC1.out
          have y4 := AD.out.c4 _ HC1.out
          have y5 := AD.out.c5 _ HC1.out
          clear hb1
          go_wp2_with fail
          refine (cNoAlts AD.out HC1.out false Q_noalts.out).mono ?_
          rintro e w2 ⟨rfl, hb1⟩
          have HB2 := Lib.hid (HB1.out.trans (hb1.mono HB1.out.size))
          have HC2 := Lib.hid (HC1.out.trans (hb1.mono HC1.out.size))
          have BX2 := Lib.hid (blk_below BX1.out hb1)
          have z0 : World.cell? w2 ⟨w.heap.size, 0, none⟩ = some (.pointer (some ⟨b, off, none⟩)) := (blk_cell BX2.out 0).trans rfl
          have y1 := AD.out.c1 _ HC2.out
          have y2 := AD.out.c2 _ HC2.out
          have y3 := AD.out.c3 _ HC2.out
          have y4 := AD.out.c4 _ HC2.out
          have y5 := AD.out.c5 _ HC2.out
          clear hb1
          go_wp2_with fail
          go_ret
          refine says_of ?_ HB2.out
          rw [FIT.out]
          have F_em' := F_em.out
          have F_kids2' := F_kids2.out
          have F_nonames' := F_nonames.out
          have F_noalts' := F_noalts.out
          simp only [F_em', F_kids2', F_nonames', F_noalts']
          try simp
        · have Q_noalts := Lib.hid q_noalts
          have F_noalts := Lib.hid q_noalts
          clear q_noalts
          cases z_nob
          · have Q_nob := Lib.hid q_nob
            have F_nob := Lib.hid q_nob
            clear q_nob
            go_enter Try.func222, Try.ntmps222
            go_wp2_with fail
            refine (cNoNames AD.out HC0.out true Q_nonames.out).mono ?_
            rintro e w1 ⟨rfl, hb1⟩
            have HB1 := Lib.hid (HB0.out.trans (hb1.mono HB0.out.size))
            have HC1 := Lib.hid (HC0.out.trans (hb1.mono HC0.out.size))
            have BX1 := Lib.hid (blk_below BX0.out hb1)
            have z0 : World.cell? w1 ⟨w.heap.size, 0, none⟩ = some (.pointer (some ⟨b, off, none⟩)) := (blk_cell BX1.out 0).trans rfl
            have y1 := AD.out.c1 _ HC1.out
            have y2 := AD.out.c2 _ HC1.out
            have y3 := AD.out.c3 _ HC1.out
            have y4 := AD.out.c4 _ HC1.out
            have y5 := AD.out.c5 _ HC1.out
            clear hb1
            go_wp2_with fail
            refine (cNoAlts AD.out HC1.out true Q_noalts.out).mono ?_
            rintro e w2 ⟨rfl, hb1⟩
            have HB2 := Lib.hid (HB1.out.trans (hb1.mono HB1.out.size))
            have HC2 := Lib.hid (HC1.out.trans (hb1.mono HC1.out.size))
            have BX2 := Lib.hid (blk_below BX1.out hb1)
            have z0 : World.cell? w2 ⟨w.heap.size, 0, none⟩ = some (.pointer (some ⟨b, off, none⟩)) := (blk_cell BX2.out 0).trans rfl
            have y1 := AD.out.c1 _ HC2.out
            have y2 := AD.out.c2 _ HC2.out
            have y3 := AD.out.c3 _ HC2.out
            have y4 := AD.out.c4 _ HC2.out
            have y5 := AD.out.c5 _ HC2.out
            clear hb1
            go_wp2_with fail
            refine (cNoNumber AD.out HC2.out false Q_nob.out).mono ?_
            rintro e w3 ⟨rfl, hb1⟩
            have HB3 := Lib.hid (HB2.out.trans (hb1.mono HB2.out.size))
            have HC3 := Lib.hid (HC2.out.trans (hb1.mono HC2.out.size))
            have BX3 := Lib.hid (blk_below BX2.out hb1)
            have z0 : World.cell? w3 ⟨w.heap.size, 0, none⟩ = some (.pointer (some ⟨b, off, none⟩)) := (blk_cell BX3.out 0).trans rfl
            have y1 := AD.out.c1 _ HC3.out
            have y2 := AD.out.c2 _ HC3.out
            have y3 := AD.out.c3 _ HC3.out
            have y4 := AD.out.c4 _ HC3.out
            have y5 := AD.out.c5 _ HC3.out
            clear hb1
            go_wp2_with fail
            go_ret
            refine says_of ?_ HB3.out
            rw [FIT.out]
            have F_em' := F_em.out
            have F_kids2' := F_kids2.out
            have F_nonames' := F_nonames.out
            have F_noalts' := F_noalts.out
            have F_nob' := F_nob.out
            simp only [F_em', F_kids2', F_nonames', F_noalts', F_nob']
            try simp
          · have Q_nob := Lib.hid q_nob
            have F_nob := Lib.hid q_nob
            clear q_nob
            go_enter Try.func222, Try.ntmps222
            go_wp2_with fail
            refine (cNoNames AD.out HC0.out true Q_nonames.out).mono ?_
            rintro e w1 ⟨rfl, hb1⟩
            have HB1 := Lib.hid (HB0.out.trans (hb1.mono HB0.out.size))
            have HC1 := Lib.hid (HC0.out.trans (hb1.mono HC0.out.size))
            have BX1 := Lib.hid (blk_below BX0.out hb1)
            have z0 : World.cell? w1 ⟨w.heap.size, 0, none⟩ = some (.pointer (some ⟨b, off, none⟩)) := (blk_cell BX1.out 0).trans rfl
            have y1 := AD.out.c1 _ HC1.out
            have y2 := AD.out.c2 _ HC1.out
            have y3 := AD.out.c3 _ HC1.out
            have y4 := AD.out.c4 _ HC1.out
            have y5 := AD.out.c5 _ HC1.out
            clear hb1
            go_wp2_with fail
            refine (cNoAlts AD.out HC1.out true Q_noalts.out).mono ?_
            rintro e w2 ⟨rfl, hb1⟩
            have HB2 := Lib.hid (HB1.out.trans (hb1.mono HB1.out.size))
            have HC2 := Lib.hid (HC1.out.trans (hb1.mono HC1.out.size))
            have BX2 := Lib.hid (blk_below BX1.out hb1)
            have z0 : World.cell? w2 ⟨w.heap.size, 0, none⟩ = some (.pointer (some ⟨b, off, none⟩)) := (blk_cell BX2.out 0).trans rfl
            have y1 := AD.out.c1 _ HC2.out
            have y2 := AD.out.c2 _ HC2.out
            have y3 := AD.out.c3 _ HC2.out
            have y4 := AD.out.c4 _ HC2.out
            have y5 := AD.out.c5 _ HC2.out
            clear hb1
            go_wp2_with fail
            refine (cNoNumber AD.out HC2.out true Q_nob.out).mono ?_
            rintro e w3 ⟨rfl, hb1⟩
            have HB3 := Lib.hid (HB2.out.trans (hb1.mono HB2.out.size))
            have HC3 := Lib.hid (HC2.out.trans (hb1.mono HC2.out.size))
            have BX3 := Lib.hid (blk_below BX2.out hb1)
            have z0 : World.cell? w3 ⟨w.heap.size, 0, none⟩ = some (.pointer (some ⟨b, off, none⟩)) := (blk_cell BX3.out 0).trans rfl
            have y1 := AD.out.c1 _ HC3.out
            have y2 := AD.out.c2 _ HC3.out
            have y3 := AD.out.c3 _ HC3.out
            have y4 := AD.out.c4 _ HC3.out
            have y5 := AD.out.c5 _ HC3.out
            clear hb1
            go_wp2_with fail
            go_ret
            refine says_of ?_ HB3.out
            rw [FIT.out]
            have F_em' := F_em.out
            have F_kids2' := F_kids2.out
            have F_nonames' := F_nonames.out
            have F_noalts' := F_noalts.out
            have F_nob' := F_nob.out
            simp only [F_em', F_kids2', F_nonames', F_noalts', F_nob']
            try simp
    · have F_kids2 := Lib.hid h_kids2
      have q_kids2 : ¬ (2 : Int) ≤ (nk : Int) := by omega
      clear h_kids2
      go_enter Try.func222, Try.ntmps222
      go_wp2_with fail
      go_ret
      refine says_of ?_ HB0.out
      rw [FIT.out]
      have F_em' := F_em.out
      have F_kids2' := F_kids2.out
      simp only [F_em', F_kids2']
      try simp
set_option maxRecDepth 100000 in
theorem fits6 (A : At W0 b off 6 n m l.length ns.length nk qs.length AL AN AK AA cL cN cK cA) (hb : Below W0.heap.size W0 w) (hn : ns.length ≤ 140737488351232) (hl : ∀ x ∈ ns, x.size ≤ 140737488351232) (hd : Rd W0 (.slice 1 (strs ns)) [.slice AN ns.length cN]) :
    Calls Try.prog 223 #[.agg #[.pointer (some ⟨b, off, none⟩)]] w (Says (fitP 6 n m l ns nk qs) w) := by
  have FIT : Hid (fitP 6 n m l ns nk qs ↔ (n.toList = [] ∧ nk = 1 ∧ 1 ≤ ns.length ∧ okNames ns = true ∧ (qs.length == 0) = true ∧ (!m && l.length == 0) = true)) := by
    show _ ↔ _
    constructor
    · intro h
      simp [fitP] at h
      simp [h]
    · intro h
      simp at h
      simp [fitP, h]
  have AD := Lib.hid A
  have HC0 := Lib.hid (below_al hb hb.size (.cells #[.pointer (some ⟨b, off, none⟩)] 239))
  have HB0 := Lib.hid (below_alloc1 w (.cells #[.pointer (some ⟨b, off, none⟩)] 239))
  have BX0 := Lib.hid (blk_new w (.cells #[.pointer (some ⟨b, off, none⟩)] 239))
  clear A hb
  have UNL : Hid (∀ w1, Below W0.heap.size W0 w1 → Calls Try.prog 224 #[.slice AN ns.length cN] w1 (Ret (okNames ns) w1)) := fun w1 h1 => implUnlike ns hn hl w1 _ (hd.below h1)
  clear hd hl
  have y1 := AD.out.c1 _ HC0.out
  have y4 := AD.out.c4 _ HC0.out
  have y5 := AD.out.c5 _ HC0.out
  obtain ⟨z_noalts, q_noalts⟩ : ∃ z, (qs.length == 0) = z := ⟨_, rfl⟩
  obtain ⟨z_nob, q_nob⟩ : ∃ z, (!m && l.length == 0) = z := ⟨_, rfl⟩
  cases hn : n.toList.isEmpty
  · have F_em := Lib.hid (emp_f hn)
    go_enter Try.func223, Try.ntmps223
    go_wp2_with fail
    go_ret
    refine says_of ?_ HB0.out
    rw [FIT.out]
    have F_em' := F_em.out
    simp only [F_em']
    try simp
  · have F_em := Lib.hid (emp_t hn)
    by_cases h_kids1 : nk = 1
    · have F_kids1 := Lib.hid h_kids1
      have q_kids1 : ((nk : Int) == 1) = true := by rw [beq_iff_eq]; omega
      clear h_kids1
      by_cases h_names0 : 1 ≤ ns.length
      · have F_names0 := Lib.hid h_names0
        have q_names0 : (0 : Int) < (ns.length : Int) := by omega
        clear h_names0
        cases g_unl : okNames ns
        · have F_unl := Lib.hid g_unl
          rw [g_unl] at UNL
          clear g_unl
          go_enter Try.func223, Try.ntmps223
          go_wp2_with fail
          refine (UNL.out _ HC0.out).mono ?_
          rintro e w1 ⟨rfl, hb1⟩
          have HB1 := Lib.hid (HB0.out.trans (hb1.mono HB0.out.size))
          have HC1 := Lib.hid (HC0.out.trans (hb1.mono HC0.out.size))
          have BX1 := Lib.hid (blk_below BX0.out hb1)
          have z0 : World.cell? w1 ⟨w.heap.size, 0, none⟩ = some (.pointer (some ⟨b, off, none⟩)) := (blk_cell BX1.out 0).trans rfl
          have y1 := AD.out.c1 _ HC1.out
          have y2 := AD.out.c2 _ HC1.out
          have y3 := AD.out.c3 _ HC1.out
          have y4 := AD.out.c4 _ HC1.out
          have y5 := AD.out.c5 _ HC1.out
          clear hb1
          go_wp2_with fail
          go_ret
          refine says_of ?_ HB1.out
          rw [FIT.out]
          have F_em' := F_em.out
          have F_kids1' := F_kids1.out
          have F_names0' := F_names0.out
          have F_unl' := F_unl.out
          simp only [F_em', F_kids1', F_names0', F_unl']
          try simp
        · have F_unl := Lib.hid g_unl
          rw [g_unl] at UNL
          clear g_unl
          cases z_noalts
          · have Q_noalts := Lib.hid q_noalts
            have F_noalts := Lib.hid q_noalts
            clear q_noalts
            go_enter Try.func223, Try.ntmps223
            go_wp2_with fail
            refine (UNL.out _ HC0.out).mono ?_
            rintro e w1 ⟨rfl, hb1⟩
            have HB1 := Lib.hid (HB0.out.trans (hb1.mono HB0.out.size))
            have HC1 := Lib.hid (HC0.out.trans (hb1.mono HC0.out.size))
            have BX1 := Lib.hid (blk_below BX0.out hb1)
            have z0 : World.cell? w1 ⟨w.heap.size, 0, none⟩ = some (.pointer (some ⟨b, off, none⟩)) := (blk_cell BX1.out 0).trans rfl
            have y1 := AD.out.c1 _ HC1.out
            have y2 := AD.out.c2 _ HC1.out
            have y3 := AD.out.c3 _ HC1.out
            have y4 := AD.out.c4 _ HC1.out
            have y5 := AD.out.c5 _ HC1.out
            clear hb1
            go_wp2_with fail
            refine (cNoAlts AD.out HC1.out false Q_noalts.out).mono ?_
            rintro e w2 ⟨rfl, hb1⟩
            have HB2 := Lib.hid (HB1.out.trans (hb1.mono HB1.out.size))
            have HC2 := Lib.hid (HC1.out.trans (hb1.mono HC1.out.size))
            have BX2 := Lib.hid (blk_below BX1.out hb1)
            have z0 : World.cell? w2 ⟨w.heap.size, 0, none⟩ = some (.pointer (some ⟨b, off, none⟩)) := (blk_cell BX2.out 0).trans rfl
            have y1 := AD.out.c1 _ HC2.out
            have y2 := AD.out.c2 _ HC2.out
            have y3 := AD.out.c3 _ HC2.out
            have y4 := AD.out.c4 _ HC2.out
            have y5 := AD.out.c5 _ HC2.out
            clear hb1
            go_wp2_with fail
            go_ret
            refine says_of ?_ HB2.out
            rw [FIT.out]
            have F_em' := F_em.out
            have F_kids1' := F_kids1.out
            have F_names0' := F_names0.out
            have F_unl' := F_unl.out
            have F_noalts' := F_noalts.out
            simp only [F_em', F_kids1', F_names0', F_unl', F_noalts']
            try simp
          · have Q_noalts := Lib.hid q_noalts
            have F_noalts := Lib.hid q_noalts
            clear q_noalts
            cases z_nob
            · have Q_nob := Lib.hid q_nob
              have F_nob := Lib.hid q_nob
              clear q_nob
              go_enter Try.func223, Try.ntmps223
              go_wp2_with fail
              refine (UNL.out _ HC0.out).mono ?_
              rintro e w1 ⟨rfl, hb1⟩
              have HB1 := Lib.hid (HB0.out.trans (hb1.mono HB0.out.size))
              have HC1 := Lib.hid (HC0.out.trans (hb1.mono HC0.out.size))
              have BX1 := Lib.hid (blk_below BX0.out hb1)
              have z0 : World.cell? w1 ⟨w.heap.size, 0, none⟩ = some (.pointer (some ⟨b, off, none⟩)) := (blk_cell BX1.out 0).trans rfl
              have y1 := AD.out.c1 _ HC1.out
              have y2 := AD.out.c2 _ HC1.out
              have y3 := AD.out.c3 _ HC1.out
              have y4 := AD.out.c4 _ HC1.out
              have y5 := AD.out.c5 _ HC1.out
              clear hb1
              go_wp2_with fail
              refine (cNoAlts AD.out HC1.out true Q_noalts.out).mono ?_
              rintro e w2 ⟨rfl, hb1⟩
              have HB2 := Lib.hid (HB1.out.trans (hb1.mono HB1.out.size))
              have HC2 := Lib.hid (HC1.out.trans (hb1.mono HC1.out.size))
              have BX2 := Lib.hid (blk_below BX1.out hb1)
              have z0 : World.cell? w2 ⟨w.heap.size, 0, none⟩ = some (.pointer (some ⟨b, off, none⟩)) := (blk_cell BX2.out 0).trans rfl
              have y1 := AD.out.c1 _ HC2.out
              have y2 := AD.out.c2 _ HC2.out
              have y3 := AD.out.c3 _ HC2.out
              have y4 := AD.out.c4 _ HC2.out
              have y5 := AD.out.c5 _ HC2.out
              clear hb1
              go_wp2_with fail
              refine (cNoNumber AD.out HC2.out false Q_nob.out).mono ?_
              rintro e w3 ⟨rfl, hb1⟩
              have HB3 := Lib.hid (HB2.out.trans (hb1.mono HB2.out.size))
              have HC3 := Lib.hid (HC2.out.trans (hb1.mono HC2.out.size))
              have BX3 := Lib.hid (blk_below BX2.out hb1)
              have z0 : World.cell? w3 ⟨w.heap.size, 0, none⟩ = some (.pointer (some ⟨b, off, none⟩)) := (blk_cell BX3.out 0).trans rfl
              have y1 := AD.out.c1 _ HC3.out
              have y2 := AD.out.c2 _ HC3.out
              have y3 := AD.out.c3 _ HC3.out
              have y4 := AD.out.c4 _ HC3.out
              have y5 := AD.out.c5 _ HC3.out
              clear hb1
              go_wp2_with fail
              go_ret
              refine says_of ?_ HB3.out
              rw [FIT.out]
              have F_em' := F_em.out
              have F_kids1' := F_kids1.out
              have F_names0' := F_names0.out
              have F_unl' := F_unl.out
              have F_noalts' := F_noalts.out
              have F_nob' := F_nob.out
              simp only [F_em', F_kids1', F_names0', F_unl', F_noalts', F_nob']
              try simp
            · have Q_nob := Lib.hid q_nob
              have F_nob := Lib.hid q_nob
              clear q_nob
              go_enter Try.func223, Try.ntmps223
              go_wp2_with fail
              refine (UNL.out _ HC0.out).mono ?_
              rintro e w1 ⟨rfl, hb1⟩
              have HB1 := Lib.hid (HB0.out.trans (hb1.mono HB0.out.size))
              have HC1 := Lib.hid (HC0.out.trans (hb1.mono HC0.out.size))
              have BX1 := Lib.hid (blk_below BX0.out hb1)
              have z0 : World.cell? w1 ⟨w.heap.size, 0, none⟩ = some (.pointer (some ⟨b, off, none⟩)) := (blk_cell BX1.out 0).trans rfl
              have y1 := AD.out.c1 _ HC1.out
              have y2 := AD.out.c2 _ HC1.out
              have y3 := AD.out.c3 _ HC1.out
              have y4 := AD.out.c4 _ HC1.out
              have y5 := AD.out.c5 _ HC1.out
              clear hb1
              go_wp2_with fail
              refine (cNoAlts AD.out HC1.out true Q_noalts.out).mono ?_
              rintro e w2 ⟨rfl, hb1⟩
              have HB2 := Lib.hid (HB1.out.trans (hb1.mono HB1.out.size))
              have HC2 := Lib.hid (HC1.out.trans (hb1.mono HC1.out.size))
              have BX2 := Lib.hid (blk_below BX1.out hb1)
              have z0 : World.cell? w2 ⟨w.heap.size, 0, none⟩ = some (.pointer (some ⟨b, off, none⟩)) := (blk_cell BX2.out 0).trans rfl
              have y1 := AD.out.c1 _ HC2.out
              have y2 := AD.out.c2 _ HC2.out
              have y3 := AD.out.c3 _ HC2.out
              have y4 := AD.out.c4 _ HC2.out
              have y5 := AD.out.c5 _ HC2.out
              clear hb1
              go_wp2_with fail
              refine (cNoNumber AD.out HC2.out true Q_nob.out).mono ?_
              rintro e w3 ⟨rfl, hb1⟩
              have HB3 := Lib.hid (HB2.out.trans (hb1.mono HB2.out.size))
              have HC3 := Lib.hid (HC2.out.trans (hb1.mono HC2.out.size))
              have BX3 := Lib.hid (blk_below BX2.out hb1)
              have z0 : World.cell? w3 ⟨w.heap.size, 0, none⟩ = some (.pointer (some ⟨b, off, none⟩)) := (blk_cell BX3.out 0).trans rfl
              have y1 := AD.out.c1 _ HC3.out
              have y2 := AD.out.c2 _ HC3.out
              have y3 := AD.out.c3 _ HC3.out
              have y4 := AD.out.c4 _ HC3.out
              have y5 := AD.out.c5 _ HC3.out
              clear hb1
              go_wp2_with fail
              go_ret
              refine says_of ?_ HB3.out
              rw [FIT.out]
              have F_em' := F_em.out
              have F_kids1' := F_kids1.out
              have F_names0' := F_names0.out
              have F_unl' := F_unl.out
              have F_noalts' := F_noalts.out
              have F_nob' := F_nob.out
              simp only [F_em', F_kids1', F_names0', F_unl', F_noalts', F_nob']
              try simp
      · have F_names0 := Lib.hid h_names0
        have q_names0 : ¬ (0 : Int) < (ns.length : Int) := by omega
        clear h_names0
        go_enter Try.func223, Try.ntmps223
        go_wp2_with fail
        go_ret
        refine says_of ?_ HB0.out
        rw [FIT.out]
        have F_em' := F_em.out
        have F_kids1' := F_kids1.out
        have F_names0' := F_names0.out
        simp only [F_em', F_kids1', F_names0']
        try simp
    · have F_kids1 := Lib.hid h_kids1
      have q_kids1 : ((nk : Int) == 1) = false := by rw [beq_eq_false_iff_ne]; omega
      clear h_kids1
      go_enter Try.func223, Try.ntmps223
      go_wp2_with fail
      go_ret
      refine says_of ?_ HB0.out
      rw [FIT.out]
      have F_em' := F_em.out
      have F_kids1' := F_kids1.out
      simp only [F_em', F_kids1']
      try simp
set_option maxRecDepth 100000 in
theorem fits10 (A : At W0 b off 10 n m l.length ns.length nk qs.length AL AN AK AA cL cN cK cA) (hb : Below W0.heap.size W0 w) :
    Calls Try.prog 229 #[.agg #[.pointer (some ⟨b, off, none⟩)]] w (Says (fitP 10 n m l ns nk qs) w) := by
  have FIT : Hid (fitP 10 n m l ns nk qs ↔ (n.toList ≠ [] ∧ n.size ≤ 60000 ∧ (ns.length == 0 && (qs.length == 0 && nk == 0)) = true ∧ (!m && l.length == 0) = true)) := by
    show _ ↔ _
    constructor
    · intro h
      simp [fitP] at h
      simp [h]
    · intro h
      simp at h
      simp [fitP, h]
  have AD := Lib.hid A
  have HC0 := Lib.hid (below_al hb hb.size (.cells #[.pointer (some ⟨b, off, none⟩)] 243))
  have HB0 := Lib.hid (below_alloc1 w (.cells #[.pointer (some ⟨b, off, none⟩)] 243))
  have BX0 := Lib.hid (blk_new w (.cells #[.pointer (some ⟨b, off, none⟩)] 243))
  clear A hb
  have y1 := AD.out.c1 _ HC0.out
  have y4 := AD.out.c4 _ HC0.out
  have y5 := AD.out.c5 _ HC0.out
  obtain ⟨z_leaf, q_leaf⟩ : ∃ z, (ns.length == 0 && (qs.length == 0 && nk == 0)) = z := ⟨_, rfl⟩
  obtain ⟨z_nob, q_nob⟩ : ∃ z, (!m && l.length == 0) = z := ⟨_, rfl⟩
  cases hn : n.toList.isEmpty
  · have F_ne := Lib.hid (emp_f hn)
    by_cases h_sz : n.size ≤ 60000
    · have F_sz := Lib.hid h_sz
      have q_sz : (n.size : Int) ≤ 60000 := by omega
      clear h_sz
      cases z_leaf
      · have Q_leaf := Lib.hid q_leaf
        have F_leaf := Lib.hid q_leaf
        clear q_leaf
        go_enter Try.func229, Try.ntmps229
        go_wp2_with fail
        refine (cLeaf AD.out HC0.out false Q_leaf.out).mono ?_
        rintro e w1 ⟨rfl, hb1⟩
        have HB1 := Lib.hid (HB0.out.trans (hb1.mono HB0.out.size))
        have HC1 := Lib.hid (HC0.out.trans (hb1.mono HC0.out.size))
        have BX1 := Lib.hid (blk_below BX0.out hb1)
        have z0 : World.cell? w1 ⟨w.heap.size, 0, none⟩ = some (.pointer (some ⟨b, off, none⟩)) := (blk_cell BX1.out 0).trans rfl
        have y1 := AD.out.c1 _ HC1.out
        have y2 := AD.out.c2 _ HC1.out
        have y3 := AD.out.c3 _ HC1.out
        have y4 := AD.out.c4 _ HC1.out
        have y5 := AD.out.c5 _ HC1.out
        clear hb1
        go_wp2_with fail
        go_ret
        refine says_of ?_ HB1.out
        rw [FIT.out]
        have F_ne' := F_ne.out
        have F_sz' := F_sz.out
        have F_leaf' := F_leaf.out
        simp only [F_ne', F_sz', F_leaf']
        try simp [F_ne']
      · have Q_leaf := Lib.hid q_leaf
        have F_leaf := Lib.hid q_leaf
        clear q_leaf
        cases z_nob
        · have Q_nob := Lib.hid q_nob
          have F_nob := Lib.hid q_nob
          clear q_nob
          go_enter Try.func229, Try.ntmps229
          go_wp2_with fail
          refine (cLeaf AD.out HC0.out true Q_leaf.out).mono ?_
          rintro e w1 ⟨rfl, hb1⟩
          have HB1 := Lib.hid (HB0.out.trans (hb1.mono HB0.out.size))
          have HC1 := Lib.hid (HC0.out.trans (hb1.mono HC0.out.size))
          have BX1 := Lib.hid (blk_below BX0.out hb1)
          have z0 : World.cell? w1 ⟨w.heap.size, 0, none⟩ = some (.pointer (some ⟨b, off, none⟩)) := (blk_cell BX1.out 0).trans rfl
          have y1 := AD.out.c1 _ HC1.out
          have y2 := AD.out.c2 _ HC1.out
          have y3 := AD.out.c3 _ HC1.out
          have y4 := AD.out.c4 _ HC1.out
          have y5 := AD.out.c5 _ HC1.out
          clear hb1
          go_wp2_with fail
          refine (cNoNumber AD.out HC1.out false Q_nob.out).mono ?_
          rintro e w2 ⟨rfl, hb1⟩
          have HB2 := Lib.hid (HB1.out.trans (hb1.mono HB1.out.size))
          have HC2 := Lib.hid (HC1.out.trans (hb1.mono HC1.out.size))
          have BX2 := Lib.hid (blk_below BX1.out hb1)
          have z0 : World.cell? w2 ⟨w.heap.size, 0, none⟩ = some (.pointer (some ⟨b, off, none⟩)) := (blk_cell BX2.out 0).trans rfl
          have y1 := AD.out.c1 _ HC2.out
          have y2 := AD.out.c2 _ HC2.out
          have y3 := AD.out.c3 _ HC2.out
          have y4 := AD.out.c4 _ HC2.out
          have y5 := AD.out.c5 _ HC2.out
          clear hb1
          go_wp2_with fail
          go_ret
          refine says_of ?_ HB2.out
          rw [FIT.out]
          have F_ne' := F_ne.out
          have F_sz' := F_sz.out
          have F_leaf' := F_leaf.out
          have F_nob' := F_nob.out
          simp only [F_ne', F_sz', F_leaf', F_nob']
          try simp [F_ne']
        · have Q_nob := Lib.hid q_nob
          have F_nob := Lib.hid q_nob
          clear q_nob
          go_enter Try.func229, Try.ntmps229
          go_wp2_with fail
          refine (cLeaf AD.out HC0.out true Q_leaf.out).mono ?_
          rintro e w1 ⟨rfl, hb1⟩
          have HB1 := Lib.hid (HB0.out.trans (hb1.mono HB0.out.size))
          have HC1 := Lib.hid (HC0.out.trans (hb1.mono HC0.out.size))
          have BX1 := Lib.hid (blk_below BX0.out hb1)
          have z0 : World.cell? w1 ⟨w.heap.size, 0, none⟩ = some (.pointer (some ⟨b, off, none⟩)) := (blk_cell BX1.out 0).trans rfl
          have y1 := AD.out.c1 _ HC1.out
          have y2 := AD.out.c2 _ HC1.out
          have y3 := AD.out.c3 _ HC1.out
          have y4 := AD.out.c4 _ HC1.out
          have y5 := AD.out.c5 _ HC1.out
          clear hb1
          go_wp2_with fail
          refine (cNoNumber AD.out HC1.out true Q_nob.out).mono ?_
          rintro e w2 ⟨rfl, hb1⟩
          have HB2 := Lib.hid (HB1.out.trans (hb1.mono HB1.out.size))
          have HC2 := Lib.hid (HC1.out.trans (hb1.mono HC1.out.size))
          have BX2 := Lib.hid (blk_below BX1.out hb1)
          have z0 : World.cell? w2 ⟨w.heap.size, 0, none⟩ = some (.pointer (some ⟨b, off, none⟩)) := (blk_cell BX2.out 0).trans rfl
          have y1 := AD.out.c1 _ HC2.out
          have y2 := AD.out.c2 _ HC2.out
          have y3 := AD.out.c3 _ HC2.out
          have y4 := AD.out.c4 _ HC2.out
          have y5 := AD.out.c5 _ HC2.out
          clear hb1
          go_wp2_with fail
          go_ret
          refine says_of ?_ HB2.out
          rw [FIT.out]
          have F_ne' := F_ne.out
          have F_sz' := F_sz.out
          have F_leaf' := F_leaf.out
          have F_nob' := F_nob.out
          simp only [F_ne', F_sz', F_leaf', F_nob']
          try simp [F_ne']
    · have F_sz := Lib.hid h_sz
      have q_sz : ¬ (n.size : Int) ≤ 60000 := by omega
      clear h_sz
      go_enter Try.func229, Try.ntmps229
      go_wp2_with fail
      go_ret
      refine says_of ?_ HB0.out
      rw [FIT.out]
      have F_ne' := F_ne.out
      have F_sz' := F_sz.out
      simp only [F_ne', F_sz']
      try simp [F_ne']
  · have F_ne := Lib.hid (emp_t hn)
    go_enter Try.func229, Try.ntmps229
    go_wp2_with fail
    go_ret
    refine says_of ?_ HB0.out
    rw [FIT.out]
    have F_ne' := F_ne.out
    simp only [F_ne']
    try simp [F_ne']
end
end Go.Proofs.Ythidbmjdphfddaa
