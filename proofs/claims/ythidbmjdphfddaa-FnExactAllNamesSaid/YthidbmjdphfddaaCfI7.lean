/- The program's shape of a core term, asked through its interface; no condition. -/
import Derived.Test.YthidbmjdphfddaaCfI6
namespace Go.Proofs.Ythidbmjdphfddaa
open Go Go.RowKit Go.Sort
set_option linter.unusedVariables false
set_option linter.unusedSimpArgs false

section
variable {W0 w : World} {b off : Nat} {k : Int} {n : ByteArray} {m : Bool} {nl nn nk nq : Nat} {AL AN AK AA : Option Addr} {cL cN cK cA : Nat}
/-- A value behind the interface. -/
def RetI (T : TypeId) (p : Addr) (w : World) (e : Ending) (w' : World) : Prop := e = .returned (.iface T (.agg #[.pointer (some p)])) ∧ Below w.heap.size w w'
set_option maxRecDepth 100000 in
theorem term1 (A : At W0 b off 1 n m nl nn nk nq AL AN AK AA cL cN cK cA) (hb : Below W0.heap.size W0 w) :
    Calls Try.prog 124 #[.pointer (some ⟨b, off, none⟩)] w (RetI 234 ⟨b, off, none⟩ w) := by
  have y0 := A.c0 _ (below_al hb hb.size (.cells #[.pointer (some ⟨b, off, none⟩)] 232))
  have HB0 := Lib.hid (below_alloc1 w (.cells #[.pointer (some ⟨b, off, none⟩)] 232))
  clear A hb
  go_enter Try.func124, Try.ntmps124
  go_wp2
  go_ret
  exact ⟨rfl, HB0.out⟩
set_option maxRecDepth 100000 in
theorem term2 (A : At W0 b off 2 n m nl nn nk nq AL AN AK AA cL cN cK cA) (hb : Below W0.heap.size W0 w) :
    Calls Try.prog 124 #[.pointer (some ⟨b, off, none⟩)] w (RetI 235 ⟨b, off, none⟩ w) := by
  have y0 := A.c0 _ (below_al hb hb.size (.cells #[.pointer (some ⟨b, off, none⟩)] 232))
  have HB0 := Lib.hid (below_alloc1 w (.cells #[.pointer (some ⟨b, off, none⟩)] 232))
  clear A hb
  go_enter Try.func124, Try.ntmps124
  go_wp2
  go_ret
  exact ⟨rfl, HB0.out⟩
set_option maxRecDepth 100000 in
theorem term3 (A : At W0 b off 3 n m nl nn nk nq AL AN AK AA cL cN cK cA) (hb : Below W0.heap.size W0 w) :
    Calls Try.prog 124 #[.pointer (some ⟨b, off, none⟩)] w (RetI 236 ⟨b, off, none⟩ w) := by
  have y0 := A.c0 _ (below_al hb hb.size (.cells #[.pointer (some ⟨b, off, none⟩)] 232))
  have HB0 := Lib.hid (below_alloc1 w (.cells #[.pointer (some ⟨b, off, none⟩)] 232))
  clear A hb
  go_enter Try.func124, Try.ntmps124
  go_wp2
  go_ret
  exact ⟨rfl, HB0.out⟩
set_option maxRecDepth 100000 in
theorem term4 (A : At W0 b off 4 n m nl nn nk nq AL AN AK AA cL cN cK cA) (hb : Below W0.heap.size W0 w) :
    Calls Try.prog 124 #[.pointer (some ⟨b, off, none⟩)] w (RetI 237 ⟨b, off, none⟩ w) := by
  have y0 := A.c0 _ (below_al hb hb.size (.cells #[.pointer (some ⟨b, off, none⟩)] 232))
  have HB0 := Lib.hid (below_alloc1 w (.cells #[.pointer (some ⟨b, off, none⟩)] 232))
  clear A hb
  go_enter Try.func124, Try.ntmps124
  go_wp2
  go_ret
  exact ⟨rfl, HB0.out⟩
set_option maxRecDepth 100000 in
theorem term5 (A : At W0 b off 5 n m nl nn nk nq AL AN AK AA cL cN cK cA) (hb : Below W0.heap.size W0 w) :
    Calls Try.prog 124 #[.pointer (some ⟨b, off, none⟩)] w (RetI 238 ⟨b, off, none⟩ w) := by
  have y0 := A.c0 _ (below_al hb hb.size (.cells #[.pointer (some ⟨b, off, none⟩)] 232))
  have HB0 := Lib.hid (below_alloc1 w (.cells #[.pointer (some ⟨b, off, none⟩)] 232))
  clear A hb
  go_enter Try.func124, Try.ntmps124
  go_wp2
  go_ret
  exact ⟨rfl, HB0.out⟩
set_option maxRecDepth 100000 in
theorem term6 (A : At W0 b off 6 n m nl nn nk nq AL AN AK AA cL cN cK cA) (hb : Below W0.heap.size W0 w) :
    Calls Try.prog 124 #[.pointer (some ⟨b, off, none⟩)] w (RetI 239 ⟨b, off, none⟩ w) := by
  have y0 := A.c0 _ (below_al hb hb.size (.cells #[.pointer (some ⟨b, off, none⟩)] 232))
  have HB0 := Lib.hid (below_alloc1 w (.cells #[.pointer (some ⟨b, off, none⟩)] 232))
  clear A hb
  go_enter Try.func124, Try.ntmps124
  go_wp2
  go_ret
  exact ⟨rfl, HB0.out⟩
set_option maxRecDepth 100000 in
theorem term7 (A : At W0 b off 7 n m nl nn nk nq AL AN AK AA cL cN cK cA) (hb : Below W0.heap.size W0 w) :
    Calls Try.prog 124 #[.pointer (some ⟨b, off, none⟩)] w (RetI 240 ⟨b, off, none⟩ w) := by
  have y0 := A.c0 _ (below_al hb hb.size (.cells #[.pointer (some ⟨b, off, none⟩)] 232))
  have HB0 := Lib.hid (below_alloc1 w (.cells #[.pointer (some ⟨b, off, none⟩)] 232))
  clear A hb
  go_enter Try.func124, Try.ntmps124
  go_wp2
  go_ret
  exact ⟨rfl, HB0.out⟩
set_option maxRecDepth 100000 in
theorem term8 (A : At W0 b off 8 n m nl nn nk nq AL AN AK AA cL cN cK cA) (hb : Below W0.heap.size W0 w) :
    Calls Try.prog 124 #[.pointer (some ⟨b, off, none⟩)] w (RetI 241 ⟨b, off, none⟩ w) := by
  have y0 := A.c0 _ (below_al hb hb.size (.cells #[.pointer (some ⟨b, off, none⟩)] 232))
  have HB0 := Lib.hid (below_alloc1 w (.cells #[.pointer (some ⟨b, off, none⟩)] 232))
  clear A hb
  go_enter Try.func124, Try.ntmps124
  go_wp2
  go_ret
  exact ⟨rfl, HB0.out⟩
set_option maxRecDepth 100000 in
theorem term9 (A : At W0 b off 9 n m nl nn nk nq AL AN AK AA cL cN cK cA) (hb : Below W0.heap.size W0 w) :
    Calls Try.prog 124 #[.pointer (some ⟨b, off, none⟩)] w (RetI 242 ⟨b, off, none⟩ w) := by
  have y0 := A.c0 _ (below_al hb hb.size (.cells #[.pointer (some ⟨b, off, none⟩)] 232))
  have HB0 := Lib.hid (below_alloc1 w (.cells #[.pointer (some ⟨b, off, none⟩)] 232))
  clear A hb
  go_enter Try.func124, Try.ntmps124
  go_wp2
  go_ret
  exact ⟨rfl, HB0.out⟩
set_option maxRecDepth 100000 in
theorem term10 (A : At W0 b off 10 n m nl nn nk nq AL AN AK AA cL cN cK cA) (hb : Below W0.heap.size W0 w) :
    Calls Try.prog 124 #[.pointer (some ⟨b, off, none⟩)] w (RetI 243 ⟨b, off, none⟩ w) := by
  have y0 := A.c0 _ (below_al hb hb.size (.cells #[.pointer (some ⟨b, off, none⟩)] 232))
  have HB0 := Lib.hid (below_alloc1 w (.cells #[.pointer (some ⟨b, off, none⟩)] 232))
  clear A hb
  go_enter Try.func124, Try.ntmps124
  go_wp2
  go_ret
  exact ⟨rfl, HB0.out⟩
set_option maxRecDepth 100000 in
theorem termX (hk : ¬ (1 ≤ k ∧ k ≤ 10)) (A : At W0 b off k n m nl nn nk nq AL AN AK AA cL cN cK cA) (hb : Below W0.heap.size W0 w) :
    Calls Try.prog 124 #[.pointer (some ⟨b, off, none⟩)] w (RetI 244 ⟨b, off, none⟩ w) := by
  have y0 := A.c0 _ (below_al hb hb.size (.cells #[.pointer (some ⟨b, off, none⟩)] 232))
  have HB0 := Lib.hid (below_alloc1 w (.cells #[.pointer (some ⟨b, off, none⟩)] 232))
  have k1 : (k == 1) = false := by rw [beq_eq_false_iff_ne]; omega
  have k2 : (k == 2) = false := by rw [beq_eq_false_iff_ne]; omega
  have k3 : (k == 3) = false := by rw [beq_eq_false_iff_ne]; omega
  have k4 : (k == 4) = false := by rw [beq_eq_false_iff_ne]; omega
  have k5 : (k == 5) = false := by rw [beq_eq_false_iff_ne]; omega
  have k6 : (k == 6) = false := by rw [beq_eq_false_iff_ne]; omega
  have k7 : (k == 7) = false := by rw [beq_eq_false_iff_ne]; omega
  have k8 : (k == 8) = false := by rw [beq_eq_false_iff_ne]; omega
  have k9 : (k == 9) = false := by rw [beq_eq_false_iff_ne]; omega
  have k10 : (k == 10) = false := by rw [beq_eq_false_iff_ne]; omega
  clear hk
  clear A hb
  go_enter Try.func124, Try.ntmps124
  go_wp2
  go_ret
  exact ⟨rfl, HB0.out⟩
end
theorem meth1 (p : Addr) (w : World) : (method 391 234 (.agg #[.pointer (some p)]) "loop.example/g00017/impl.fits").run Try.prog w = .ok (214, .agg #[.pointer (some p)]) w := by kernel_rfl
set_option maxRecDepth 100000 in
theorem see1 {W0 w : World} {b off : Nat} {n : ByteArray} {m : Bool} {l : List Int} {ns : List ByteArray} {nk : Nat} {qs : List Ca} {AL AN AK AA : Option Addr} {cL cN cK cA : Nat} (A : At W0 b off 1 n m l.length ns.length nk qs.length AL AN AK AA cL cN cK cA) (hb : Below W0.heap.size W0 w) (d : Value) :
    Calls Try.prog 123 #[.pointer (some ⟨b, off, none⟩), d] w (Says (fitP 1 n m l ns nk qs) w) := by
  have CT := Lib.hid (term1 A hb)
  have CF : Hid (∀ w1, Below W0.heap.size W0 w1 → Calls Try.prog 214 #[.agg #[.pointer (some ⟨b, off, none⟩)]] w1 (Says (fitP 1 n m l ns nk qs) w1)) := fun w1 h1 => fits1 A h1 
  have HB := Lib.hid hb
  have MT := Lib.hid (meth1 ⟨b, off, none⟩)
  clear A hb
  go_enter Try.func123, Try.ntmps123
  go_wp2_with fail
  refine CT.out.mono ?_
  rintro e w1 ⟨rfl, hb1⟩
  have B1 := Lib.hid hb1
  have HC1 := Lib.hid (HB.out.trans (hb1.mono HB.out.size))
  have mt := MT.out w1
  clear hb1 CT
  go_wp2_with fail
  refine (CF.out _ HC1.out).mono ?_
  rintro e w2 ⟨r, rfl, hr, hb2⟩
  have B2 := Lib.hid (B1.out.trans (hb2.mono B1.out.size))
  have HR := Lib.hid hr
  clear hb2 hr mt
  go_wp2
  go_ret
  exact says_of HR.out B2.out
theorem meth2 (p : Addr) (w : World) : (method 391 235 (.agg #[.pointer (some p)]) "loop.example/g00017/impl.fits").run Try.prog w = .ok (218, .agg #[.pointer (some p)]) w := by kernel_rfl
set_option maxRecDepth 100000 in
theorem see2 {W0 w : World} {b off : Nat} {n : ByteArray} {m : Bool} {l : List Int} {ns : List ByteArray} {nk : Nat} {qs : List Ca} {AL AN AK AA : Option Addr} {cL cN cK cA : Nat} (hl : l.length ≤ 140737488351232) (hd : Rd W0 (bigD m l) [.bool m, .slice AL l.length cL]) (A : At W0 b off 2 n m l.length ns.length nk qs.length AL AN AK AA cL cN cK cA) (hb : Below W0.heap.size W0 w) (d : Value) :
    Calls Try.prog 123 #[.pointer (some ⟨b, off, none⟩), d] w (Says (fitP 2 n m l ns nk qs) w) := by
  have CT := Lib.hid (term2 A hb)
  have CF : Hid (∀ w1, Below W0.heap.size W0 w1 → Calls Try.prog 218 #[.agg #[.pointer (some ⟨b, off, none⟩)]] w1 (Says (fitP 2 n m l ns nk qs) w1)) := fun w1 h1 => fits2 A h1 hl hd
  have HB := Lib.hid hb
  have MT := Lib.hid (meth2 ⟨b, off, none⟩)
  clear A hb hl hd
  go_enter Try.func123, Try.ntmps123
  go_wp2_with fail
  refine CT.out.mono ?_
  rintro e w1 ⟨rfl, hb1⟩
  have B1 := Lib.hid hb1
  have HC1 := Lib.hid (HB.out.trans (hb1.mono HB.out.size))
  have mt := MT.out w1
  clear hb1 CT
  go_wp2_with fail
  refine (CF.out _ HC1.out).mono ?_
  rintro e w2 ⟨r, rfl, hr, hb2⟩
  have B2 := Lib.hid (B1.out.trans (hb2.mono B1.out.size))
  have HR := Lib.hid hr
  clear hb2 hr mt
  go_wp2
  go_ret
  exact says_of HR.out B2.out
theorem meth3 (p : Addr) (w : World) : (method 391 236 (.agg #[.pointer (some p)]) "loop.example/g00017/impl.fits").run Try.prog w = .ok (220, .agg #[.pointer (some p)]) w := by kernel_rfl
set_option maxRecDepth 100000 in
theorem see3 {W0 w : World} {b off : Nat} {n : ByteArray} {m : Bool} {l : List Int} {ns : List ByteArray} {nk : Nat} {qs : List Ca} {AL AN AK AA : Option Addr} {cL cN cK cA : Nat} (A : At W0 b off 3 n m l.length ns.length nk qs.length AL AN AK AA cL cN cK cA) (hb : Below W0.heap.size W0 w) (d : Value) :
    Calls Try.prog 123 #[.pointer (some ⟨b, off, none⟩), d] w (Says (fitP 3 n m l ns nk qs) w) := by
  have CT := Lib.hid (term3 A hb)
  have CF : Hid (∀ w1, Below W0.heap.size W0 w1 → Calls Try.prog 220 #[.agg #[.pointer (some ⟨b, off, none⟩)]] w1 (Says (fitP 3 n m l ns nk qs) w1)) := fun w1 h1 => fits3 A h1 
  have HB := Lib.hid hb
  have MT := Lib.hid (meth3 ⟨b, off, none⟩)
  clear A hb
  go_enter Try.func123, Try.ntmps123
  go_wp2_with fail
  refine CT.out.mono ?_
  rintro e w1 ⟨rfl, hb1⟩
  have B1 := Lib.hid hb1
  have HC1 := Lib.hid (HB.out.trans (hb1.mono HB.out.size))
  have mt := MT.out w1
  clear hb1 CT
  go_wp2_with fail
  refine (CF.out _ HC1.out).mono ?_
  rintro e w2 ⟨r, rfl, hr, hb2⟩
  have B2 := Lib.hid (B1.out.trans (hb2.mono B1.out.size))
  have HR := Lib.hid hr
  clear hb2 hr mt
  go_wp2
  go_ret
  exact says_of HR.out B2.out
theorem meth4 (p : Addr) (w : World) : (method 391 237 (.agg #[.pointer (some p)]) "loop.example/g00017/impl.fits").run Try.prog w = .ok (221, .agg #[.pointer (some p)]) w := by kernel_rfl
set_option maxRecDepth 100000 in
theorem see4 {W0 w : World} {b off : Nat} {n : ByteArray} {m : Bool} {l : List Int} {ns : List ByteArray} {nk : Nat} {qs : List Ca} {AL AN AK AA : Option Addr} {cL cN cK cA : Nat} (A : At W0 b off 4 n m l.length ns.length nk qs.length AL AN AK AA cL cN cK cA) (hb : Below W0.heap.size W0 w) (d : Value) :
    Calls Try.prog 123 #[.pointer (some ⟨b, off, none⟩), d] w (Says (fitP 4 n m l ns nk qs) w) := by
  have CT := Lib.hid (term4 A hb)
  have CF : Hid (∀ w1, Below W0.heap.size W0 w1 → Calls Try.prog 221 #[.agg #[.pointer (some ⟨b, off, none⟩)]] w1 (Says (fitP 4 n m l ns nk qs) w1)) := fun w1 h1 => fits4 A h1 
  have HB := Lib.hid hb
  have MT := Lib.hid (meth4 ⟨b, off, none⟩)
  clear A hb
  go_enter Try.func123, Try.ntmps123
  go_wp2_with fail
  refine CT.out.mono ?_
  rintro e w1 ⟨rfl, hb1⟩
  have B1 := Lib.hid hb1
  have HC1 := Lib.hid (HB.out.trans (hb1.mono HB.out.size))
  have mt := MT.out w1
  clear hb1 CT
  go_wp2_with fail
  refine (CF.out _ HC1.out).mono ?_
  rintro e w2 ⟨r, rfl, hr, hb2⟩
  have B2 := Lib.hid (B1.out.trans (hb2.mono B1.out.size))
  have HR := Lib.hid hr
  clear hb2 hr mt
  go_wp2
  go_ret
  exact says_of HR.out B2.out
theorem meth5 (p : Addr) (w : World) : (method 391 238 (.agg #[.pointer (some p)]) "loop.example/g00017/impl.fits").run Try.prog w = .ok (222, .agg #[.pointer (some p)]) w := by kernel_rfl
set_option maxRecDepth 100000 in
theorem see5 {W0 w : World} {b off : Nat} {n : ByteArray} {m : Bool} {l : List Int} {ns : List ByteArray} {nk : Nat} {qs : List Ca} {AL AN AK AA : Option Addr} {cL cN cK cA : Nat} (A : At W0 b off 5 n m l.length ns.length nk qs.length AL AN AK AA cL cN cK cA) (hb : Below W0.heap.size W0 w) (d : Value) :
    Calls Try.prog 123 #[.pointer (some ⟨b, off, none⟩), d] w (Says (fitP 5 n m l ns nk qs) w) := by
  have CT := Lib.hid (term5 A hb)
  have CF : Hid (∀ w1, Below W0.heap.size W0 w1 → Calls Try.prog 222 #[.agg #[.pointer (some ⟨b, off, none⟩)]] w1 (Says (fitP 5 n m l ns nk qs) w1)) := fun w1 h1 => fits5 A h1 
  have HB := Lib.hid hb
  have MT := Lib.hid (meth5 ⟨b, off, none⟩)
  clear A hb
  go_enter Try.func123, Try.ntmps123
  go_wp2_with fail
  refine CT.out.mono ?_
  rintro e w1 ⟨rfl, hb1⟩
  have B1 := Lib.hid hb1
  have HC1 := Lib.hid (HB.out.trans (hb1.mono HB.out.size))
  have mt := MT.out w1
  clear hb1 CT
  go_wp2_with fail
  refine (CF.out _ HC1.out).mono ?_
  rintro e w2 ⟨r, rfl, hr, hb2⟩
  have B2 := Lib.hid (B1.out.trans (hb2.mono B1.out.size))
  have HR := Lib.hid hr
  clear hb2 hr mt
  go_wp2
  go_ret
  exact says_of HR.out B2.out
theorem meth6 (p : Addr) (w : World) : (method 391 239 (.agg #[.pointer (some p)]) "loop.example/g00017/impl.fits").run Try.prog w = .ok (223, .agg #[.pointer (some p)]) w := by kernel_rfl
set_option maxRecDepth 100000 in
theorem see6 {W0 w : World} {b off : Nat} {n : ByteArray} {m : Bool} {l : List Int} {ns : List ByteArray} {nk : Nat} {qs : List Ca} {AL AN AK AA : Option Addr} {cL cN cK cA : Nat} (hn : ns.length ≤ 140737488351232) (hl : ∀ x ∈ ns, x.size ≤ 140737488351232) (hd : Rd W0 (.slice 1 (strs ns)) [.slice AN ns.length cN]) (A : At W0 b off 6 n m l.length ns.length nk qs.length AL AN AK AA cL cN cK cA) (hb : Below W0.heap.size W0 w) (d : Value) :
    Calls Try.prog 123 #[.pointer (some ⟨b, off, none⟩), d] w (Says (fitP 6 n m l ns nk qs) w) := by
  have CT := Lib.hid (term6 A hb)
  have CF : Hid (∀ w1, Below W0.heap.size W0 w1 → Calls Try.prog 223 #[.agg #[.pointer (some ⟨b, off, none⟩)]] w1 (Says (fitP 6 n m l ns nk qs) w1)) := fun w1 h1 => fits6 A h1 hn hl hd
  have HB := Lib.hid hb
  have MT := Lib.hid (meth6 ⟨b, off, none⟩)
  clear A hb hn hl hd
  go_enter Try.func123, Try.ntmps123
  go_wp2_with fail
  refine CT.out.mono ?_
  rintro e w1 ⟨rfl, hb1⟩
  have B1 := Lib.hid hb1
  have HC1 := Lib.hid (HB.out.trans (hb1.mono HB.out.size))
  have mt := MT.out w1
  clear hb1 CT
  go_wp2_with fail
  refine (CF.out _ HC1.out).mono ?_
  rintro e w2 ⟨r, rfl, hr, hb2⟩
  have B2 := Lib.hid (B1.out.trans (hb2.mono B1.out.size))
  have HR := Lib.hid hr
  clear hb2 hr mt
  go_wp2
  go_ret
  exact says_of HR.out B2.out
theorem meth7 (p : Addr) (w : World) : (method 391 240 (.agg #[.pointer (some p)]) "loop.example/g00017/impl.fits").run Try.prog w = .ok (225, .agg #[.pointer (some p)]) w := by kernel_rfl
set_option maxRecDepth 100000 in
theorem see7 {W0 w : World} {b off : Nat} {n : ByteArray} {m : Bool} {l : List Int} {ns : List ByteArray} {nk : Nat} {qs : List Ca} {AL AN AK AA : Option Addr} {cL cN cK cA : Nat} (hk : nk ≤ 140737488351232) (hn : ns.length ≤ 140737488351232) (hl : ∀ x ∈ ns, x.size ≤ 140737488351232) (hd : Rd W0 (.slice 1 (strs ns)) [.slice AN ns.length cN]) (A : At W0 b off 7 n m l.length ns.length nk qs.length AL AN AK AA cL cN cK cA) (hb : Below W0.heap.size W0 w) (d : Value) :
    Calls Try.prog 123 #[.pointer (some ⟨b, off, none⟩), d] w (Says (fitP 7 n m l ns nk qs) w) := by
  have CT := Lib.hid (term7 A hb)
  have CF : Hid (∀ w1, Below W0.heap.size W0 w1 → Calls Try.prog 225 #[.agg #[.pointer (some ⟨b, off, none⟩)]] w1 (Says (fitP 7 n m l ns nk qs) w1)) := fun w1 h1 => fits7 A h1 hk hn hl hd
  have HB := Lib.hid hb
  have MT := Lib.hid (meth7 ⟨b, off, none⟩)
  clear A hb hk hn hl hd
  go_enter Try.func123, Try.ntmps123
  go_wp2_with fail
  refine CT.out.mono ?_
  rintro e w1 ⟨rfl, hb1⟩
  have B1 := Lib.hid hb1
  have HC1 := Lib.hid (HB.out.trans (hb1.mono HB.out.size))
  have mt := MT.out w1
  clear hb1 CT
  go_wp2_with fail
  refine (CF.out _ HC1.out).mono ?_
  rintro e w2 ⟨r, rfl, hr, hb2⟩
  have B2 := Lib.hid (B1.out.trans (hb2.mono B1.out.size))
  have HR := Lib.hid hr
  clear hb2 hr mt
  go_wp2
  go_ret
  exact says_of HR.out B2.out
theorem meth8 (p : Addr) (w : World) : (method 391 241 (.agg #[.pointer (some p)]) "loop.example/g00017/impl.fits").run Try.prog w = .ok (226, .agg #[.pointer (some p)]) w := by kernel_rfl
set_option maxRecDepth 100000 in
theorem see8 {W0 w : World} {b off : Nat} {n : ByteArray} {m : Bool} {l : List Int} {ns : List ByteArray} {nk : Nat} {qs : List Ca} {AL AN AK AA : Option Addr} {cL cN cK cA : Nat} (hk : nk ≤ 140737488351232) (hq : qs.length ≤ 1048576) (ho : Ca.oks qs) (hd : Rd W0 (.slice 9 (Ca.encs qs)) [.slice AA qs.length cA]) (A : At W0 b off 8 n m l.length ns.length nk qs.length AL AN AK AA cL cN cK cA) (hb : Below W0.heap.size W0 w) (d : Value) :
    Calls Try.prog 123 #[.pointer (some ⟨b, off, none⟩), d] w (Says (fitP 8 n m l ns nk qs) w) := by
  have CT := Lib.hid (term8 A hb)
  have CF : Hid (∀ w1, Below W0.heap.size W0 w1 → Calls Try.prog 226 #[.agg #[.pointer (some ⟨b, off, none⟩)]] w1 (Says (fitP 8 n m l ns nk qs) w1)) := fun w1 h1 => fits8 A h1 hk hq ho hd
  have HB := Lib.hid hb
  have MT := Lib.hid (meth8 ⟨b, off, none⟩)
  clear A hb hk hq ho hd
  go_enter Try.func123, Try.ntmps123
  go_wp2_with fail
  refine CT.out.mono ?_
  rintro e w1 ⟨rfl, hb1⟩
  have B1 := Lib.hid hb1
  have HC1 := Lib.hid (HB.out.trans (hb1.mono HB.out.size))
  have mt := MT.out w1
  clear hb1 CT
  go_wp2_with fail
  refine (CF.out _ HC1.out).mono ?_
  rintro e w2 ⟨r, rfl, hr, hb2⟩
  have B2 := Lib.hid (B1.out.trans (hb2.mono B1.out.size))
  have HR := Lib.hid hr
  clear hb2 hr mt
  go_wp2
  go_ret
  exact says_of HR.out B2.out
theorem meth9 (p : Addr) (w : World) : (method 391 242 (.agg #[.pointer (some p)]) "loop.example/g00017/impl.fits").run Try.prog w = .ok (227, .agg #[.pointer (some p)]) w := by kernel_rfl
set_option maxRecDepth 100000 in
theorem see9 {W0 w : World} {b off : Nat} {n : ByteArray} {m : Bool} {l : List Int} {ns : List ByteArray} {nk : Nat} {qs : List Ca} {AL AN AK AA : Option Addr} {cL cN cK cA : Nat} (A : At W0 b off 9 n m l.length ns.length nk qs.length AL AN AK AA cL cN cK cA) (hb : Below W0.heap.size W0 w) (d : Value) :
    Calls Try.prog 123 #[.pointer (some ⟨b, off, none⟩), d] w (Says (fitP 9 n m l ns nk qs) w) := by
  have CT := Lib.hid (term9 A hb)
  have CF : Hid (∀ w1, Below W0.heap.size W0 w1 → Calls Try.prog 227 #[.agg #[.pointer (some ⟨b, off, none⟩)]] w1 (Says (fitP 9 n m l ns nk qs) w1)) := fun w1 h1 => fits9 A h1 
  have HB := Lib.hid hb
  have MT := Lib.hid (meth9 ⟨b, off, none⟩)
  clear A hb
  go_enter Try.func123, Try.ntmps123
  go_wp2_with fail
  refine CT.out.mono ?_
  rintro e w1 ⟨rfl, hb1⟩
  have B1 := Lib.hid hb1
  have HC1 := Lib.hid (HB.out.trans (hb1.mono HB.out.size))
  have mt := MT.out w1
  clear hb1 CT
  go_wp2_with fail
  refine (CF.out _ HC1.out).mono ?_
  rintro e w2 ⟨r, rfl, hr, hb2⟩
  have B2 := Lib.hid (B1.out.trans (hb2.mono B1.out.size))
  have HR := Lib.hid hr
  clear hb2 hr mt
  go_wp2
  go_ret
  exact says_of HR.out B2.out
theorem meth10 (p : Addr) (w : World) : (method 391 243 (.agg #[.pointer (some p)]) "loop.example/g00017/impl.fits").run Try.prog w = .ok (229, .agg #[.pointer (some p)]) w := by kernel_rfl
set_option maxRecDepth 100000 in
theorem see10 {W0 w : World} {b off : Nat} {n : ByteArray} {m : Bool} {l : List Int} {ns : List ByteArray} {nk : Nat} {qs : List Ca} {AL AN AK AA : Option Addr} {cL cN cK cA : Nat} (A : At W0 b off 10 n m l.length ns.length nk qs.length AL AN AK AA cL cN cK cA) (hb : Below W0.heap.size W0 w) (d : Value) :
    Calls Try.prog 123 #[.pointer (some ⟨b, off, none⟩), d] w (Says (fitP 10 n m l ns nk qs) w) := by
  have CT := Lib.hid (term10 A hb)
  have CF : Hid (∀ w1, Below W0.heap.size W0 w1 → Calls Try.prog 229 #[.agg #[.pointer (some ⟨b, off, none⟩)]] w1 (Says (fitP 10 n m l ns nk qs) w1)) := fun w1 h1 => fits10 A h1 
  have HB := Lib.hid hb
  have MT := Lib.hid (meth10 ⟨b, off, none⟩)
  clear A hb
  go_enter Try.func123, Try.ntmps123
  go_wp2_with fail
  refine CT.out.mono ?_
  rintro e w1 ⟨rfl, hb1⟩
  have B1 := Lib.hid hb1
  have HC1 := Lib.hid (HB.out.trans (hb1.mono HB.out.size))
  have mt := MT.out w1
  clear hb1 CT
  go_wp2_with fail
  refine (CF.out _ HC1.out).mono ?_
  rintro e w2 ⟨r, rfl, hr, hb2⟩
  have B2 := Lib.hid (B1.out.trans (hb2.mono B1.out.size))
  have HR := Lib.hid hr
  clear hb2 hr mt
  go_wp2
  go_ret
  exact says_of HR.out B2.out
theorem methX (p : Addr) (w : World) : (method 391 244 (.agg #[.pointer (some p)]) "loop.example/g00017/impl.fits").run Try.prog w = .ok (230, .agg #[.pointer (some p)]) w := by kernel_rfl
set_option maxRecDepth 100000 in
theorem seeX {W0 w : World} {b off : Nat} {n : ByteArray} {m : Bool} {l : List Int} {ns : List ByteArray} {nk : Nat} {qs : List Ca} {AL AN AK AA : Option Addr} {cL cN cK cA : Nat} {k : Int} (hk : ¬ (1 ≤ k ∧ k ≤ 10)) (A : At W0 b off k n m l.length ns.length nk qs.length AL AN AK AA cL cN cK cA) (hb : Below W0.heap.size W0 w) (d : Value) :
    Calls Try.prog 123 #[.pointer (some ⟨b, off, none⟩), d] w (Says (fitP k n m l ns nk qs) w) := by
  have CT := Lib.hid (termX hk A hb)
  have CF : Hid (∀ w1, Below W0.heap.size W0 w1 → Calls Try.prog 230 #[.agg #[.pointer (some ⟨b, off, none⟩)]] w1 (Says (fitP k n m l ns nk qs) w1)) := fun w1 h1 => fitsX k hk
  have HB := Lib.hid hb
  have MT := Lib.hid (methX ⟨b, off, none⟩)
  clear A hb hk
  go_enter Try.func123, Try.ntmps123
  go_wp2_with fail
  refine CT.out.mono ?_
  rintro e w1 ⟨rfl, hb1⟩
  have B1 := Lib.hid hb1
  have HC1 := Lib.hid (HB.out.trans (hb1.mono HB.out.size))
  have mt := MT.out w1
  clear hb1 CT
  go_wp2_with fail
  refine (CF.out _ HC1.out).mono ?_
  rintro e w2 ⟨r, rfl, hr, hb2⟩
  have B2 := Lib.hid (B1.out.trans (hb2.mono B1.out.size))
  have HR := Lib.hid hr
  clear hb2 hr mt
  go_wp2
  go_ret
  exact says_of HR.out B2.out
/-- The closure that looks at one term's shape. -/
theorem seeFit {W0 w : World} {b off : Nat} (k : Int) (n : ByteArray) (m : Bool) (l : List Int) (ns : List ByteArray) (ks : List Cr) (qs : List Ca) (ho : (Cr.mk k n m l ns ks qs).ok) (hq : qs.length ≤ 1048576) (cs : List Value) (h : Rd W0 (Cr.mk k n m l ns ks qs).enc cs) (hc : CellsAt W0 b off cs) (hb : Below W0.heap.size W0 w) (d : Value) :
    Calls Try.prog 123 #[.pointer (some ⟨b, off, none⟩), d] w (Says (fitP k n m l ns ks.length qs) w) := by
  obtain ⟨AL, cL, AN, cN, AK, cK, AA, cA, rfl, _, _, _, _, dB, dN, dK, dA⟩ := Cr.open_ h
  have A := At.mk' hc
  simp only [Cr.ok] at ho
  by_cases hk : 1 ≤ k ∧ k ≤ 10
  · have hk' : k = 1 ∨ k = 2 ∨ k = 3 ∨ k = 4 ∨ k = 5 ∨ k = 6 ∨ k = 7 ∨ k = 8 ∨ k = 9 ∨ k = 10 := by omega
    clear hk
    rcases hk' with rfl | rfl | rfl | rfl | rfl | rfl | rfl | rfl | rfl | rfl
    · exact see1 A hb d
    · exact see2 ho.2.2.1.1 dB A hb d
    · exact see3 A hb d
    · exact see4 A hb d
    · exact see5 A hb d
    · exact see6 ho.2.2.2.1.1 ho.2.2.2.1.2 dN A hb d
    · exact see7 ho.2.2.2.2.1 ho.2.2.2.1.1 ho.2.2.2.1.2 dN A hb d
    · exact see8 ho.2.2.2.2.1 hq ho.2.2.2.2.2.2.2 dA A hb d
    · exact see9 A hb d
    · exact see10 A hb d
  · exact seeX hk A hb d
end Go.Proofs.Ythidbmjdphfddaa
