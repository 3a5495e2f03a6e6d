/-
  The law FnExactTokenOf returns true and changes nothing that was there, wherever strconv's table of powers of ten is laid and stays.
-/
import Derived.Test.YtmaohomgmombpaaDoorFmt
namespace Go.Proofs.YtmaohomgmombpaaDoor
open Go.RowKit

set_option maxRecDepth 100000 in
theorem tok_small (s : ByteArray) (hs : s.size ≤ 1048576) (n : Int) (hn : Fits n) (w : World) (ht : Tab w) (hk : ∀ w', Below w.heap.size w w' → Tab w') :
    Calls Tryd.prog 3 #[.string s, .int .i64 n] w fun e w' => e = .returned (.bool true) ∧ Below w.heap.size w w' := by
  have HN := Lib.hid hn
  have HS := Lib.hid hs
  have HT := Lib.hid ht
  have HK := Lib.hid hk
  have hd : decide ((1048576 : Int) < (s.size : Int)) = false := by rw [decide_eq_false_iff_not]; omega
  clear hn ht hs hk
  go_enter Tryd.func3, Tryd.ntmps3
  go_wp2_with (first | (go_at_call 7; refine (tok_spec s HS.out n HN.out _).mono ?_; rintro e w1 ⟨rfl, hb1⟩) | (go_at_call 8; refine (tok_impl s HS.out n HN.out _ (HK.out _ hb1)).mono ?_; rintro e w2 ⟨rfl, hb2⟩))
  go_ret
  exact ⟨rfl, hb1.trans (hb2.mono hb1.size)⟩

set_option maxRecDepth 100000 in
theorem tok_large (s : ByteArray) (hs : ¬ s.size ≤ 1048576) (n : Int) (w : World) :
    Calls Tryd.prog 3 #[.string s, .int .i64 n] w fun e w' => e = .returned (.bool true) ∧ Below w.heap.size w w' := by
  have hd : decide ((1048576 : Int) < (s.size : Int)) = true := by rw [decide_eq_true_iff]; omega
  clear hs
  go_enter Tryd.func3, Tryd.ntmps3
  go_wp2
  go_ret
  exact ⟨rfl, Below.refl _ _⟩
theorem tok_law (s : ByteArray) (n : Int) (hn : Fits n) (w : World) (ht : Tab w) (hk : ∀ w', Below w.heap.size w w' → Tab w') :
    Calls Tryd.prog 3 #[.string s, .int .i64 n] w fun e w' => e = .returned (.bool true) ∧ Below w.heap.size w w' := by
  by_cases h : s.size ≤ 1048576
  · exact tok_small s h n hn w ht hk
  · exact tok_large s h n w
end Go.Proofs.YtmaohomgmombpaaDoor
