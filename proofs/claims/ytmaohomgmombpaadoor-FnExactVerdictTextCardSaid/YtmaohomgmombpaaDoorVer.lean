/-
  The law FnExactVerdictText returns true for every verdict, wherever strconv's table of powers of ten is laid and stays.
-/
import Derived.Test.YtmaohomgmombpaaDoorFmt
namespace Go.Proofs.YtmaohomgmombpaaDoor
open Go.RowKit

/-- The text of a verdict. -/
def verS (k n : Int) : ByteArray := if k = 1 then ⟨#[115, 97, 109, 101]⟩ else if k = 2 then ⟨#[100, 105, 102, 102, 101, 114, 32]⟩ ++ itoaS n else if k = 3 then ⟨#[117, 110, 107, 110, 111, 119, 110]⟩ else ⟨#[63]⟩

set_option maxRecDepth 100000 in
theorem ver_spec (k n : Int) (hn : Fits n) (w : World) : Calls Tryd.prog 9 #[.agg #[.int .i64 k, .int .i64 n]] w fun e w' => e = .returned (.string (verS k n)) ∧ Below w.heap.size w w' := by
  have HN := Lib.hid hn
  have hi := itoaS_size n hn
  have h2 : (⟨#[100, 105, 102, 102, 101, 114, 32]⟩ : ByteArray).size + (itoaS n).size ≤ 9223372036854775807 := by
    have : (⟨#[100, 105, 102, 102, 101, 114, 32]⟩ : ByteArray).size = 7 := rfl; omega
  have h3 : 7 + (itoaS n).size ≤ 9223372036854775807 := by omega
  clear hn
  have HV := Lib.hid (rfl : verS k n = verS k n)
  by_cases k1 : k = 1
  · have e1 : (k == 1) = true := by simpa using k1
    have HE : Hid (verS k n = ⟨#[115, 97, 109, 101]⟩) := by unfold verS; rw [if_pos k1]; rfl
    clear k1
    go_enter Tryd.func9, Tryd.ntmps9
    go_wp2
    go_ret
    exact ⟨by rw [HE.out]; rfl, (Below.refl _ _).alloc (Nat.le_refl _) _⟩
  have e1 : (k == 1) = false := by simpa using k1
  by_cases k2 : k = 2
  · have e2 : (k == 2) = true := by simpa using k2
    have HE : Hid (verS k n = ⟨#[100, 105, 102, 102, 101, 114, 32]⟩ ++ itoaS n) := by unfold verS; rw [if_neg k1, if_pos k2]; rfl
    clear k1 k2
    go_enter Tryd.func9, Tryd.ntmps9
    go_wp2_with (go_at_call 22; refine (fmt_spec n HN.out _).mono ?_; rintro e w' ⟨rfl, hb⟩)
    go_ret
    exact ⟨by rw [HE.out]; rfl, ((Below.refl _ _).alloc (Nat.le_refl _) _).trans (hb.mono (World.size_alloc _ _ ▸ Nat.le_succ _))⟩
  have e2 : (k == 2) = false := by simpa using k2
  by_cases k3 : k = 3
  · have e3 : (k == 3) = true := by simpa using k3
    have HE : Hid (verS k n = ⟨#[117, 110, 107, 110, 111, 119, 110]⟩) := by unfold verS; rw [if_neg k1, if_neg k2, if_pos k3]; rfl
    clear k1 k2 k3
    go_enter Tryd.func9, Tryd.ntmps9
    go_wp2
    go_ret
    exact ⟨by rw [HE.out]; rfl, (Below.refl _ _).alloc (Nat.le_refl _) _⟩
  · have e3 : (k == 3) = false := by simpa using k3
    have HE : Hid (verS k n = ⟨#[63]⟩) := by unfold verS; rw [if_neg k1, if_neg k2, if_neg k3]; rfl
    clear k1 k2 k3
    go_enter Tryd.func9, Tryd.ntmps9
    go_wp2
    go_ret
    exact ⟨by rw [HE.out]; rfl, (Below.refl _ _).alloc (Nat.le_refl _) _⟩
set_option maxRecDepth 100000 in
theorem ver_impl (k n : Int) (hn : Fits n) (w : World) (hk : ∀ w', Below w.heap.size w w' → Tab w') : Calls Tryd.prog 11 #[.agg #[.int .i64 k, .int .i64 n]] w fun e w' => e = .returned (.string (verS k n)) ∧ Below w.heap.size w w' := by
  have HN := Lib.hid hn
  have HK := Lib.hid hk
  clear hk
  have hi := itoaS_size n hn
  have h2 : (⟨#[100, 105, 102, 102, 101, 114, 32]⟩ : ByteArray).size + (itoaS n).size ≤ 9223372036854775807 := by
    have : (⟨#[100, 105, 102, 102, 101, 114, 32]⟩ : ByteArray).size = 7 := rfl; omega
  have h3 : 7 + (itoaS n).size ≤ 9223372036854775807 := by omega
  clear hn
  have HV := Lib.hid (rfl : verS k n = verS k n)
  by_cases k1 : k = 1
  · have e1 : (k == 1) = true := by simpa using k1
    have HE : Hid (verS k n = ⟨#[115, 97, 109, 101]⟩) := by unfold verS; rw [if_pos k1]; rfl
    clear k1
    go_enter Tryd.func11, Tryd.ntmps11
    go_wp2
    go_ret
    exact ⟨by rw [HE.out]; rfl, (Below.refl _ _).alloc (Nat.le_refl _) _⟩
  have e1 : (k == 1) = false := by simpa using k1
  by_cases k2 : k = 2
  · have e2 : (k == 2) = true := by simpa using k2
    have HE : Hid (verS k n = ⟨#[100, 105, 102, 102, 101, 114, 32]⟩ ++ itoaS n) := by unfold verS; rw [if_neg k1, if_pos k2]; rfl
    clear k1 k2
    go_enter Tryd.func11, Tryd.ntmps11
    go_wp2_with (go_at_call 23; refine (fmt_impl n HN.out _ (HK.out _ ((Below.refl _ _).alloc (Nat.le_refl _) _))).mono ?_; rintro e w' ⟨rfl, hb⟩)
    go_ret
    exact ⟨by rw [HE.out]; rfl, ((Below.refl _ _).alloc (Nat.le_refl _) _).trans (hb.mono (World.size_alloc _ _ ▸ Nat.le_succ _))⟩
  have e2 : (k == 2) = false := by simpa using k2
  by_cases k3 : k = 3
  · have e3 : (k == 3) = true := by simpa using k3
    have HE : Hid (verS k n = ⟨#[117, 110, 107, 110, 111, 119, 110]⟩) := by unfold verS; rw [if_neg k1, if_neg k2, if_pos k3]; rfl
    clear k1 k2 k3
    go_enter Tryd.func11, Tryd.ntmps11
    go_wp2
    go_ret
    exact ⟨by rw [HE.out]; rfl, (Below.refl _ _).alloc (Nat.le_refl _) _⟩
  · have e3 : (k == 3) = false := by simpa using k3
    have HE : Hid (verS k n = ⟨#[63]⟩) := by unfold verS; rw [if_neg k1, if_neg k2, if_neg k3]; rfl
    clear k1 k2 k3
    go_enter Tryd.func11, Tryd.ntmps11
    go_wp2
    go_ret
    exact ⟨by rw [HE.out]; rfl, (Below.refl _ _).alloc (Nat.le_refl _) _⟩

/-- What was there before a call reads as it did. -/
theorem olds {W w1 : World} (hb : Below W.heap.size W w1) : (∀ b o, b < W.heap.size → w1.cell? ⟨b, o, none⟩ = W.cell? ⟨b, o, none⟩) ∧ W.heap.size ≤ w1.heap.size :=
  ⟨fun b o h => hb.cell (p := ⟨b, o, none⟩) h, hb.size⟩

set_option maxRecDepth 100000 in
/-- laws.toVerdict: a copy. -/
theorem toVer (k n : Int) (w : World) : Calls Tryd.prog 10 #[.agg #[.int .i64 k, .int .i64 n]] w fun e w' => e = .returned (.agg #[.int .i64 k, .int .i64 n]) ∧ Below w.heap.size w w' := by
  go_enter Tryd.func10, Tryd.ntmps10
  go_wp2
  exact bodyPost_ret (v := .agg #[.int .i64 k, .int .i64 n]) (by simp [results, Tryd.results10, go_sem]) rfl ⟨rfl, (((Below.refl _ _).alloc (Nat.le_refl _) _).alloc (by simp) _).alloc (by simp; omega) _⟩

theorem box_two (k n : Int) {w w1 w2 : World} (h1 : Below (w.alloc (.cells #[.int .i64 k, .int .i64 n] 25)).heap.size (w.alloc (.cells #[.int .i64 k, .int .i64 n] 25)) w1) (h2 : Below w1.heap.size w1 w2) :
    w2.cell? ⟨w.heap.size, 0, none⟩ = some (.int .i64 k) ∧ w2.cell? ⟨w.heap.size, 1, none⟩ = some (.int .i64 n) := by
  have hs : w.heap.size < (w.alloc (.cells #[.int .i64 k, .int .i64 n] 25)).heap.size := by rw [World.size_alloc]; exact Nat.lt_succ_self _
  have hb := h1.trans (h2.mono h1.size)
  exact ⟨(hb.cell (p := ⟨w.heap.size, 0, none⟩) hs).trans (World.cell?_alloc_new w #[.int .i64 k, .int .i64 n] 25 0), (hb.cell (p := ⟨w.heap.size, 1, none⟩) hs).trans (World.cell?_alloc_new w #[.int .i64 k, .int .i64 n] 25 1)⟩
theorem below_three {w w1 w2 w3 : World} {o : Obj} (h1 : Below (w.alloc o).heap.size (w.alloc o) w1) (h2 : Below w1.heap.size w1 w2) (h3 : Below w2.heap.size w2 w3) : Below w.heap.size w w3 := by
  have h0 : Below w.heap.size w (w.alloc o) := (Below.refl _ _).alloc (Nat.le_refl _) _
  have a := h0.trans (h1.mono h0.size)
  have b := a.trans (h2.mono a.size)
  exact b.trans (h3.mono b.size)

set_option maxRecDepth 100000 in
theorem ver_law (k n : Int) (hn : Fits n) (w : World) (hk : ∀ w', Below w.heap.size w w' → Tab w') :
    Calls Tryd.prog 4 #[.agg #[.int .i64 k, .int .i64 n]] w fun e w' => e = .returned (.bool true) ∧ Below w.heap.size w w' := by
  have HN := Lib.hid hn
  have HK := Lib.hid hk
  clear hn hk
  go_enter Tryd.func4, Tryd.ntmps4
  go_wp2_with (go_at_call 10; refine (toVer k n _).mono ?_; rintro e w1 ⟨rfl, hb1⟩)
  have HB1 := Lib.hid hb1
  go_wp2_with (go_at_call 9; refine (ver_spec k n HN.out _).mono ?_; rintro e w2 ⟨rfl, hb2⟩; obtain ⟨c0, c1⟩ := box_two k n HB1.out hb2)
  go_wp2_with (go_at_call 10; refine (toVer k n _).mono ?_; rintro e w3 ⟨rfl, hb3⟩)
  have HB : Hid (Below w.heap.size w w3) := below_three HB1.out hb2 hb3
  have HK3 : Hid (∀ w', Below w3.heap.size w3 w' → Tab w') := fun w' h => HK.out w' (HB.out.trans (h.mono HB.out.size))
  go_wp2_with (go_at_call 11; refine (ver_impl k n HN.out _ HK3.out).mono ?_; rintro e w4 ⟨rfl, hb4⟩)
  go_ret
  exact ⟨rfl, HB.out.trans (hb4.mono HB.out.size)⟩
end Go.Proofs.YtmaohomgmombpaaDoor
