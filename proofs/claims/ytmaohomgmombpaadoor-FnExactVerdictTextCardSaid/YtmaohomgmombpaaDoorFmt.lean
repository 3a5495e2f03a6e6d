/-
  The program's and the reference's FormatInt and TokenOf return the same decimal texts, for every 64-bit number (and names of at most 2^20 bytes); the program's under the condition that strconv's table of powers of ten is laid.
-/
import Derived.Test.YtmaohomgmombpaaDoorShelf
import Derived.WalkKit
import Derived.ProofKit
import Derived.WalkLawsBesides
import Derived.Lib.ItoaLen
import Derived.Lib.ConvBytes
import Derived.Laws.BytesArg
import Derived.LoopTactic
import Derived.Outline
import Derived.Below
import Derived.Lib.Hide
namespace Go.Proofs.YtmaohomgmombpaaDoor
open Go.RowKit

theorem conv1 (W : World) (c : Int) : (convert 73 9 (.slice (some ⟨W.heap.size, 0, none⟩) 1 1)).run Tryd.prog (W.alloc (.cells #[.int .u8 c] 5)) = .ok (.string (strOfNums [c])) (W.alloc (.cells #[.int .u8 c] 5)) := by
  refine run_convert_bytes_arg _ 73 5 Tryd.underlying73 Tryd.underlying5 W.heap.size 0 1 1 [c] rfl (fun i hi => ?_) 9 Tryd.underlying9
  obtain rfl : i = 0 := by omega
  exact (World.cell?_alloc_new W #[.int .u8 c] 5 0).trans rfl

/-- What stands behind the digits that are still to be written. -/
def FmtRel (n m : Int) (o : ByteArray) : Prop :=
  -9223372036854775808 ≤ m ∧ m ≤ 9223372036854775807 ∧ (if m = 0 then o.data.toList else Lib.decDigits m.natAbs ++ o.data.toList) = Lib.decDigits n.natAbs

theorem fmtRel_start (n : Int) (h0 : -9223372036854775808 ≤ n) (h1 : n ≤ 9223372036854775807) (hz : n ≠ 0) : FmtRel n n ⟨#[]⟩ := ⟨h0, h1, by rw [if_neg hz]; simp⟩

theorem fmtRel_step (n m : Int) (o : ByteArray) (c : Int) (hm : m ≠ 0) (h : FmtRel n m o) (hc : c = 48 + (m.natAbs % 10 : Nat)) : FmtRel n (m.tdiv 10) (strOfNums [c] ++ o) := by
  obtain ⟨h0, h1, h2⟩ := h
  have hd : (m.tdiv 10).natAbs = m.natAbs / 10 := by
    rw [Int.natAbs_tdiv]; rfl
  refine ⟨by omega, by omega, ?_⟩
  rw [if_neg hm] at h2
  have hs : (strOfNums [c] ++ o).data.toList = UInt8.ofNat (48 + m.natAbs % 10) :: o.data.toList := by
    have : c.toNat = 48 + m.natAbs % 10 := by omega
    simp [strOfNums, ByteArray.data_append, this]
  rw [hs, hd, ← h2]
  by_cases hq : m.natAbs < 10
  · rw [if_pos (by omega), Lib.decDigits, dif_pos hq]
    simp [Nat.mod_eq_of_lt hq]
  · rw [if_neg (by omega)]
    conv => rhs; rw [Lib.decDigits, dif_neg hq]
    simp

theorem fmtRel_size (n m : Int) (o : ByteArray) (h0 : -9223372036854775808 ≤ n) (h1 : n ≤ 9223372036854775807) (h : FmtRel n m o) : o.size ≤ 20 := by
  obtain ⟨_, _, h2⟩ := h
  have h3 : (Lib.decDigits n.natAbs).length ≤ 20 := by rw [Lib.decDigits_length]; exact Lib.nDigits_le20 _ (by omega)
  rw [← h2] at h3
  have h4 : o.data.toList.length = o.size := by rw [Array.length_toList]; rfl
  clear h0 h1
  split at h3
  · omega
  · rw [List.length_append] at h3; omega

theorem fmtRel_end (n : Int) (o : ByteArray) (h : FmtRel n 0 o) : o.data.toList = Lib.decDigits n.natAbs := by
  obtain ⟨_, _, h2⟩ := h
  simpa using h2

theorem strOfNums_one (c : Int) : (strOfNums [c]).size = 1 := rfl
theorem itoa_pos (n : Int) (o : ByteArray) (h : decide (n < 0) = false) (e : o.data.toList = Lib.decDigits n.natAbs) : Ending.returned (.string o) = .returned (.string ⟨(Lib.itoa n).toArray⟩) := by
  have h' : ¬ n < 0 := by simpa using h
  have : n.toNat = n.natAbs := by omega
  rw [Lib.itoa, if_neg h', this, ← e]
theorem itoa_neg (n : Int) (o : ByteArray) (h : decide (n < 0) = true) (e : o.data.toList = Lib.decDigits n.natAbs) : Ending.returned (.string (⟨#[45]⟩ ++ o)) = .returned (.string ⟨(Lib.itoa n).toArray⟩) := by
  have h' : n < 0 := by simpa using h
  rw [Lib.itoa, if_pos h', ← e]
  congr 2
theorem tq (m : Int) : (0 ≤ m → m.tdiv 10 = m / 10 ∧ m.tmod 10 = m % 10) ∧ (m < 0 → m.tdiv 10 = -((-m) / 10) ∧ m.tmod 10 = -((-m) % 10)) := by
  constructor
  · intro h
    exact ⟨Int.tdiv_eq_ediv_of_nonneg h, Int.tmod_eq_emod_of_nonneg h⟩
  · intro h
    obtain ⟨k, rfl⟩ : ∃ k, m = -k := ⟨-m, by omega⟩
    rw [Int.neg_tdiv, Int.neg_tmod, Int.neg_neg, Int.tdiv_eq_ediv_of_nonneg (by omega), Int.tmod_eq_emod_of_nonneg (by omega)]
    exact ⟨rfl, rfl⟩
theorem digit_neg (m : Int) (h0 : -9223372036854775808 ≤ m) (h1 : m ≤ 9223372036854775807) (h : Int.tmod m 10 < 0) :
    wrap64 (48 + wrap64 (-m.tmod 10)) % 256 = 48 + (m.natAbs % 10 : Nat) ∧ wrap64 (m.tdiv 10) = m.tdiv 10 := by
  have t := tq m
  have hm : m < 0 := by
    rcases Int.lt_or_le m 0 with h' | h'
    · exact h'
    · have := t.1 h'; omega
  obtain ⟨e1, e2⟩ := t.2 hm
  rw [e1, e2]
  unfold wrap64
  omega
theorem digit_pos (m : Int) (h0 : -9223372036854775808 ≤ m) (h1 : m ≤ 9223372036854775807) (h : ¬ Int.tmod m 10 < 0) :
    wrap64 (48 + m.tmod 10) % 256 = 48 + (m.natAbs % 10 : Nat) ∧ wrap64 (m.tdiv 10) = m.tdiv 10 := by
  have t := tq m
  rcases Int.lt_or_le m 0 with h' | h'
  · obtain ⟨e1, e2⟩ := t.2 h'
    rw [e1, e2]
    rw [e2] at h
    unfold wrap64
    omega
  · obtain ⟨e1, e2⟩ := t.1 h'
    rw [e1, e2]
    unfold wrap64
    omega
theorem quo_lt (m : Int) (h : m ≠ 0) : (m.tdiv 10).natAbs < m.natAbs := by
  rw [Int.natAbs_tdiv]
  exact Nat.div_lt_self (by omega) (by decide)

def Fits (n : Int) : Prop := -9223372036854775808 ≤ n ∧ n ≤ 9223372036854775807

set_option maxRecDepth 100000 in
set_option maxHeartbeats 1000000 in
theorem fmt_any (n : Int) (hn : Fits n) (hz : (n == 0) = false) (neg : Bool) (hneg : decide (n < 0) = neg) (w : World) :
    Calls Tryd.prog 22 #[.int .i64 n] w fun e w' => e = .returned (.string ⟨(Lib.itoa n).toArray⟩) ∧ Below w.heap.size w w' := by
  have kc := conv1
  have hz' : n ≠ 0 := by simpa using hz
  have HN := Lib.hid hn
  have HE := Lib.hid hneg
  have HZ := Lib.hid hz'
  clear hn hz'
  go_enter Tryd.func22, Tryd.ntmps22
  go_wp2
  go_loopw [0, 4] (fun v0 v4 wr => ∃ (m : Int) (o : ByteArray), v0 = .int .i64 m ∧ v4 = .string o ∧ FmtRel n m o ∧ Below w.heap.size w wr) (fun v0 _ _ => (intOf v0).natAbs)
  case atStart => exact ⟨n, ⟨#[]⟩, rfl, rfl, fmtRel_start n HN.out.1 HN.out.2 HZ.out, Below.refl _ _⟩
  case round =>
    obtain ⟨m, o, rfl, rfl, hR, hB⟩ := hrel
    have hos := fmtRel_size n m o HN.out.1 HN.out.2 hR
    have hone : (1 : Nat) + o.size ≤ 9223372036854775807 := by omega
    by_cases hm : m = 0
    · subst hm
      have HR := Lib.hid (fmtRel_end n o hR)
      have HB := Lib.hid hB
      clear hR hB
      cases neg
      · go_wp2
        go_ret
        exact ⟨itoa_pos n o HE.out HR.out, HB.out⟩
      · go_wp2
        go_ret
        exact ⟨itoa_neg n o HE.out HR.out, HB.out⟩
    · have hm' : (m == 0) = false := by simpa using hm
      have hms : (m != 0) = true := by simpa using hm
      have HM := Lib.hid hm
      have HR := Lib.hid hR
      have HB := Lib.hid hB
      clear hm hR hB
      by_cases hneg : Int.tmod m 10 < 0
      · obtain ⟨hcv, hq⟩ := digit_neg m HR.out.1 HR.out.2.1 hneg
        have hsz : ¬ 9223372036854775807 < (strOfNums [48 + ((m.natAbs % 10 : Nat) : Int)]).size + o.size := by rw [strOfNums_one]; omega
        go_wp2
        go_roundw
        case rel => exact ⟨_, _, rfl, rfl, by rw [hq]; exact fmtRel_step n m o _ HM.out HR.out rfl, HB.out.alloc HB.out.size _⟩
        case measure => rw [hq]; exact quo_lt m HM.out
      · obtain ⟨hcv, hq⟩ := digit_pos m HR.out.1 HR.out.2.1 hneg
        have hsz : ¬ 9223372036854775807 < (strOfNums [48 + ((m.natAbs % 10 : Nat) : Int)]).size + o.size := by rw [strOfNums_one]; omega
        go_wp2
        go_roundw
        case rel => exact ⟨_, _, rfl, rfl, by rw [hq]; exact fmtRel_step n m o _ HM.out HR.out rfl, HB.out.alloc HB.out.size _⟩
        case measure => rw [hq]; exact quo_lt m HM.out

/-- The decimal text as Go strings hold it. -/
def itoaS (n : Int) : ByteArray := ⟨(Lib.itoa n).toArray⟩
theorem itoaS_size (n : Int) (h : Fits n) : (itoaS n).size ≤ 21 := Lib.itoa_length_le n h.1 h.2

theorem fmt_zero (n : Int) (hz : (n == 0) = true) (w : World) : Calls Tryd.prog 22 #[.int .i64 n] w fun e w' => e = .returned (.string ⟨#[48]⟩) ∧ Below w.heap.size w w' := by
  go_enter Tryd.func22, Tryd.ntmps22
  go_wp2
  go_ret
  exact ⟨rfl, Below.refl _ _⟩
/-- spec.FormatInt. -/
theorem fmt_spec (n : Int) (hn : Fits n) (w : World) : Calls Tryd.prog 22 #[.int .i64 n] w fun e w' => e = .returned (.string (itoaS n)) ∧ Below w.heap.size w w' := by
  by_cases h : n = 0
  · subst h; rw [show itoaS 0 = ⟨#[48]⟩ by simp [itoaS, Lib.itoa, Lib.decDigits]]; exact fmt_zero 0 rfl w
  · exact fmt_any n hn (by simpa using h) _ rfl w

theorem below_grow (w : World) (k : Nat) (os : Array Obj) : Below w.heap.size w (Sort.grow (w.drewN k) os) :=
  ⟨rfl, rfl, rfl, by simp [Sort.grow], fun i hi => by simp [Sort.grow, Array.getElem?_append, hi]⟩

/-- The table of powers of ten that strconv reads. -/
def Tab (w : World) : Prop := Lib.TabIs Tryd.prog w "internal/strconv.uint64pow10" .u64 Lib.pow10Tab

/-- impl.FormatInt. -/
theorem fmt_impl (n : Int) (hn : Fits n) (w : World) (ht : Tab w) : Calls Tryd.prog 23 #[.int .i64 n] w fun e w' => e = .returned (.string (itoaS n)) ∧ Below w.heap.size w w' := by
  have HN := Lib.hid hn
  have HT := Lib.hid ht
  clear hn ht
  go_enter Tryd.func23, Tryd.ntmps23
  go_wp2_with (go_at_call 38; refine (Tryd.strconv_Itoa n HN.out.1 HN.out.2 _ HT.out).mono ?_; rintro e w' ⟨rfl, k, os, rfl⟩)
  go_ret
  exact ⟨rfl, below_grow _ _ _⟩

/-- spec.TokenOf. -/
theorem tok_spec (s : ByteArray) (hs : s.size ≤ 1048576) (n : Int) (hn : Fits n) (w : World) : Calls Tryd.prog 7 #[.string s, .int .i64 n] w fun e w' => e = .returned (.string (s ++ ⟨#[46]⟩ ++ itoaS n)) ∧ Below w.heap.size w w' := by
  have HN := Lib.hid hn
  have hi := itoaS_size n hn
  have h1 : s.size + 1 ≤ 9223372036854775807 := by omega
  have h2 : (s ++ ⟨#[46]⟩ : ByteArray).size + (itoaS n).size ≤ 9223372036854775807 := by
    rw [ByteArray.size_append]; have : (⟨#[46]⟩ : ByteArray).size = 1 := rfl; omega
  clear hn
  go_enter Tryd.func7, Tryd.ntmps7
  go_wp2_with (go_at_call 22; refine (fmt_spec n HN.out _).mono ?_; rintro e w' ⟨rfl, hb⟩)
  go_ret
  exact ⟨rfl, hb⟩
/-- impl.TokenOf. -/
theorem tok_impl (s : ByteArray) (hs : s.size ≤ 1048576) (n : Int) (hn : Fits n) (w : World) (ht : Tab w) : Calls Tryd.prog 8 #[.string s, .int .i64 n] w fun e w' => e = .returned (.string (s ++ ⟨#[46]⟩ ++ itoaS n)) ∧ Below w.heap.size w w' := by
  have HN := Lib.hid hn
  have HT := Lib.hid ht
  have hi := itoaS_size n hn
  have h1 : s.size + 1 ≤ 9223372036854775807 := by omega
  have h2 : (s ++ ⟨#[46]⟩ : ByteArray).size + (itoaS n).size ≤ 9223372036854775807 := by
    rw [ByteArray.size_append]; have : (⟨#[46]⟩ : ByteArray).size = 1 := rfl; omega
  clear hn ht
  go_enter Tryd.func8, Tryd.ntmps8
  go_wp2_with (go_at_call 23; refine (fmt_impl n HN.out _ HT.out).mono ?_; rintro e w' ⟨rfl, hb⟩)
  go_ret
  exact ⟨rfl, hb⟩
end Go.Proofs.YtmaohomgmombpaaDoor
