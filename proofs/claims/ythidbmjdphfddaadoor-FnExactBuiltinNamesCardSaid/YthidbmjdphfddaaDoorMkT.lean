/- The laws' own 'markText': the text of a mark; no condition. -/
import Derived.Test.YthidbmjdphfddaaDoorHf
import Derived.Test.YthidbmjdphfddaaDoorProg
namespace Go.Proofs.YthidbmjdphfddaaDoor
open Go.RowKit
set_option linter.unusedVariables false
set_option linter.unusedSimpArgs false

theorem digsN_small {n : Nat} (h : n < 10) : digsN n = [UInt8.ofNat (48 + n)] := by rw [digsN, if_pos h]
theorem digsN_big {n : Nat} (h : ¬ n < 10) : digsN n = digsN (n / 10) ++ [UInt8.ofNat (48 + n % 10)] := by rw [digsN, if_neg h]
theorem digsN_len (n : Nat) : (digsN n).length ≤ n + 1 := by
  induction n using Nat.strongRecOn with
  | _ n ih =>
    by_cases h : n < 10
    · rw [digsN_small h]; simp
    · rw [digsN_big h]
      have := ih (n / 10) (by omega)
      simp only [List.length_append, List.length_singleton]
      omega
def digs0 (n : Nat) : List UInt8 := if n = 0 then [] else digsN n
theorem digs0_step {n : Nat} (h : n ≠ 0) : digs0 n = digs0 (n / 10) ++ [UInt8.ofNat (48 + n % 10)] := by
  unfold digs0
  rw [if_neg h]
  by_cases h1 : n < 10
  · rw [digsN_small h1, if_pos (by omega), List.nil_append, Nat.mod_eq_of_lt h1]
  · rw [digsN_big h1, if_neg (by omega)]
theorem ba_append (a b : List UInt8) : (⟨a.toArray⟩ : ByteArray) ++ ⟨b.toArray⟩ = ⟨(a ++ b).toArray⟩ := by
  ext1; simp

/-- A text of one byte out of a new slice. -/
theorem conv_byte {P : Program} (w : World) (src dst e : TypeId) (hs : P.underlying src = some (.slice e)) (he : P.underlying e = some (.int .u8)) (hd : P.underlying dst = some .string) (c : UInt8) (z : Int) (hz : z = (c.toNat : Int)) :
    (convert src dst (.slice (some ⟨w.heap.size, 0, none⟩) 1 1)).run P (w.alloc (.cells #[.int .u8 z] e)) = .ok (.string ⟨#[c]⟩) (w.alloc (.cells #[.int .u8 z] e)) := by
  subst hz
  exact run_convert_bytes_back (P := P) (w.alloc (.cells #[.int .u8 (c.toNat : Int)] e)) src dst e ⟨w.heap.size, 0, none⟩ 1 [c] hs he hd (fun j hj => by
    obtain rfl : j = 0 := by simpa using hj
    rw [show (⟨w.heap.size, 0, none⟩ : Addr).add 0 = ⟨w.heap.size, 0, none⟩ from rfl]
    exact (blk_cell (blk_new w (.cells #[.int .u8 (c.toNat : Int)] e)) 0).trans rfl)

set_option maxRecDepth 100000 in
theorem markText_of (k : Nat) (hk : k ≤ 1125899906842624) (w : World) :
    Calls Tryd.prog 16 #[.int .i64 k] w fun e w' => e = .returned (.string (markT k)) ∧ Below w.heap.size w w' := by
  by_cases h0 : k = 0
  · subst h0
    go_enter Tryd.func16, Tryd.ntmps16
    go_wp2_with fail
    go_ret
    exact ⟨by rw [markT, digsN_small (by omega)]; rfl, Below.refl _ _⟩
  · have hp : (0 : Int) < (k : Int) := by omega
    have HL := Lib.hid (digsN_len k)
    have H0 := Lib.hid h0
    clear h0
    go_enter Tryd.func16, Tryd.ntmps16
    go_wp2_with fail
    go_loopw [0, 3] (fun q s wr => ∃ (m : Nat) (t : ByteArray), q = .int .i64 m ∧ s = .string t ∧ m ≤ 1125899906842624 ∧ t.size ≤ 1125899906842625 ∧ Hid (∃ l : List UInt8, t = ⟨l.toArray⟩ ∧ digs0 m ++ l = digsN k) ∧ Below w.heap.size w wr) (fun q _ _ => (intOf q).toNat)
    case atStart => exact ⟨k, ⟨#[]⟩, rfl, rfl, hk, by decide, Lib.hid ⟨[], rfl, by rw [digs0, if_neg H0.out]; simp⟩, Below.refl _ _⟩
    case round =>
      obtain ⟨m, t, rfl, rfl, hm, ht, hrel, hb⟩ := hrel
      have HR := Lib.hid hrel.out
      have HB := Lib.hid hb
      clear hrel hb
      by_cases hz : m = 0
      · subst hz
        go_wp2_with fail
        go_ret
        obtain ⟨l, rfl, hl⟩ := HR.out
        rw [digs0, if_pos rfl, List.nil_append] at hl
        exact ⟨by rw [hl, markT, show (⟨#[109]⟩ : ByteArray) = ⟨[109].toArray⟩ from rfl, ba_append]; rfl, HB.out⟩
      · have hp : (0 : Int) < (m : Int) := by omega
        have hd0 : (0 : Int) ≤ (m : Int) := by omega
        have HZ := Lib.hid hz
        have hconv := conv_byte (P := Tryd.prog) wr 41 9 5 Tryd.underlying41 Tryd.underlying5 Tryd.underlying9 (UInt8.ofNat (48 + m % 10)) (48 + (m : Int) % 10) (by simp; omega)
        obtain ⟨c, hc⟩ : ∃ c, c = UInt8.ofNat (48 + m % 10) := ⟨_, rfl⟩
        rw [← hc] at hconv
        have HC := Lib.hid hc
        clear hz hc
        have hsz : (⟨#[c]⟩ : ByteArray).size + t.size ≤ 9223372036854775807 := by show 1 + t.size ≤ _; omega
        go_wp2_with fail
        go_roundw
        case rel =>
          obtain ⟨l, rfl, hl⟩ := HR.out
          have hh : digs0 (m / 10) ++ UInt8.ofNat (48 + m % 10) :: l = digsN k := by rw [digs0_step HZ.out] at hl; simpa using hl
          have hle : l.length + 1 ≤ 1125899906842625 := by
            have h1 := congrArg List.length hh
            have h2 := HL.out
            simp only [List.length_append, List.length_cons] at h1
            omega
          exact ⟨m / 10, _, by go_num, rfl, by omega, by rw [HC.out, show (⟨#[UInt8.ofNat (48 + m % 10)]⟩ : ByteArray) = ⟨[UInt8.ofNat (48 + m % 10)].toArray⟩ from rfl, ba_append]; simpa [ByteArray.size] using hle, Lib.hid ⟨UInt8.ofNat (48 + m % 10) :: l, by rw [HC.out, show (⟨#[UInt8.ofNat (48 + m % 10)]⟩ : ByteArray) = ⟨[UInt8.ofNat (48 + m % 10)].toArray⟩ from rfl, ba_append]; rfl, hh⟩, HB.out.alloc HB.out.size _⟩
        case measure => simp [intOf]; omega

theorem markText_at (z : Int) (k : Nat) (hz : z = k) (hk : k ≤ 1125899906842624) (w : World) :
    Calls Tryd.prog 16 #[.int .i64 z] w fun e w' => e = .returned (.string (markT k)) ∧ Below w.heap.size w w' := by
  subst hz
  exact markText_of k hk w

end Go.Proofs.YthidbmjdphfddaaDoor
