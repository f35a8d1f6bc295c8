/-
  The walk of decimal.Fixed, for every number and number of places; no condition.
-/
import Derived.Test.YtnjjilnfpdepoaaDoorLib
import Derived.Test.YtnjjilnfpdepoaaDoorDig
import Derived.Deep.DeepCutAuto
import Derived.Deep.QuietTactic
import Derived.BigQuiet
import Derived.IntWalk
namespace Go.Proofs.YtnjjilnfpdepoaaDoor
open Go.RowKit
set_option maxRecDepth 100000

theorem right_yes (n : Int) (w : World) (h1 : -9007199254740992 ≤ n) (h2 : n ≤ 9007199254740992) : Calls Tryd.prog 62 #[.int .i64 n] w fun e w' => e = .returned (.bool true) ∧ w = w' := by
  have h3 : decide (n ≤ 9007199254740992) = true := decide_eq_true h2
  go_enter Tryd.func62, Tryd.ntmps62
  go_wp2
  go_ret
  exact ⟨rfl, rfl⟩

theorem right_no (n : Int) (w : World) (h : n < -9007199254740992 ∨ 9007199254740992 < n) : Calls Tryd.prog 62 #[.int .i64 n] w fun e w' => e = .returned (.bool false) ∧ w = w' := by
  by_cases h1 : n < -9007199254740992
  · clear h
    go_enter Tryd.func62, Tryd.ntmps62
    go_wp2
    go_ret
    exact ⟨rfl, rfl⟩
  · have h3 : decide (n ≤ 9007199254740992) = false := decide_eq_false (by omega)
    clear h
    go_enter Tryd.func62, Tryd.ntmps62
    go_wp2
    go_ret
    exact ⟨rfl, rfl⟩

/-- The sign, the digits and the point, as Fixed joins them. -/
def fixJoin (g t : ByteArray) (m : Nat) : ByteArray := ((g ++ t.extract 0 m) ++ ⟨#[46]⟩) ++ t.extract m t.size

theorem bstep {w W w2 : World} (h : Below w.heap.size w W) (k : Below W.heap.size W w2) : Below w.heap.size w w2 := h.trans (k.mono h.size)
theorem bdrew {B : Nat} {a w : World} (h : Below B a w) (n : Nat) : Below B a (w.drewN n) := ⟨h.os, h.tape, h.output, h.size, h.block⟩

set_option maxHeartbeats 800000 in
theorem fixed_pos_zero (n : Nat) (w : World) (hn : n ≤ 9007199254740992) (d : ByteArray) (hd : d.size ≤ 60)
    (hdig : Hid (∀ w, Calls Tryd.prog 63 #[.int .i64 (n : Int), .int .i64 10] w fun e w' => e = .returned (.string d) ∧ Below w.heap.size w w')) :
    Calls Tryd.prog 15 #[.int .i64 ((n : Int)), .int .i64 0] w fun e w' => e = .returned (.tuple #[.string (⟨#[]⟩ ++ d), .int .i64 0]) ∧ Below w.heap.size w w' := by
  go_enter Tryd.func15, Tryd.ntmps15
  go_wp2_with (first | (go_at_call 62; refine (right_yes _ _ (by omega) (by omega)).mono ?_; rintro e w' ⟨rfl, rfl⟩) | (go_at_call 63; refine (hdig.out _).mono ?_; rintro e w1 ⟨rfl, hb1⟩))
  go_ret2
  exact ⟨rfl, hb1⟩

set_option maxHeartbeats 800000 in
theorem fixed_pos_long (n p : Nat) (w : World) (hn : n ≤ 9007199254740992) (hp : 1 ≤ p) (hp2 : p ≤ 15) (d : ByteArray) (hd : d.size ≤ 60) (hlt : p < d.size)
    (hdig : Hid (∀ w, Calls Tryd.prog 63 #[.int .i64 (n : Int), .int .i64 10] w fun e w' => e = .returned (.string d) ∧ Below w.heap.size w w')) :
    Calls Tryd.prog 15 #[.int .i64 ((n : Int)), .int .i64 (p : Int)] w fun e w' => e = .returned (.tuple #[.string (fixJoin ⟨#[]⟩ d (d.size - p)), .int .i64 0]) ∧ Below w.heap.size w w' := by
  have hp0 : (((p : Int)) == 0) = false := by simp; omega
  go_enter Tryd.func15, Tryd.ntmps15
  go_upto_region 13 with (first | (go_at_call 62; refine (right_yes _ _ (by omega) (by omega)).mono ?_; rintro e w' ⟨rfl, rfl⟩) | (go_at_call 63; refine (hdig.out _).mono ?_; rintro e w1 ⟨rfl, hb1⟩))
  have e1 : IntKind.i64.wrap ((d.size : Int) - (p : Int)) = ((d.size - p : Nat) : Int) := by rw [IntKind.wrap_i64]; omega
  have e2 : (((d.size - p : Nat) : Int)).toNat = d.size - p := Int.toNat_natCast _
  have e3 : ((d.size - p : Nat) : Int) ≤ (d.size : Int) := by omega
  go_quiet (fail)
  go_wp2
  go_ret2
  exact ⟨rfl, bdrew hb1 _⟩

set_option maxHeartbeats 800000 in
theorem fixed_pos_short (n p : Nat) (w : World) (hn : n ≤ 9007199254740992) (hp : 1 ≤ p) (hp2 : p ≤ 15) (d z : ByteArray) (hd : d.size ≤ p) (hz : z.size ≤ 16) (hzd : p ≤ (z ++ d).size)
    (hdig : Hid (∀ w, Calls Tryd.prog 63 #[.int .i64 (n : Int), .int .i64 10] w fun e w' => e = .returned (.string d) ∧ Below w.heap.size w w'))
    (hrep : Hid (∀ w, Calls Tryd.prog 64 #[.string ⟨#[48]⟩, .int .i64 ((p : Int) + 1 - (d.size : Int))] w fun e w' => e = .returned (.string z) ∧ Below w.heap.size w w')) :
    Calls Tryd.prog 15 #[.int .i64 ((n : Int)), .int .i64 (p : Int)] w fun e w' => e = .returned (.tuple #[.string (fixJoin ⟨#[]⟩ (z ++ d) ((z ++ d).size - p)), .int .i64 0]) ∧ Below w.heap.size w w' := by
  have hp0 : (((p : Int)) == 0) = false := by simp; omega
  obtain ⟨t, ht⟩ : ∃ t, t = z ++ d := ⟨_, rfl⟩
  have htl : t.size ≤ 40 := by rw [ht, ByteArray.size_append]; omega
  rw [← ht] at hzd ⊢
  have Ht := Lib.hid ht
  clear ht
  go_enter Tryd.func15, Tryd.ntmps15
  go_upto_region 13 with (first | (go_at_call 62; refine (right_yes _ _ (by omega) (by omega)).mono ?_; rintro e w' ⟨rfl, rfl⟩) | (go_at_call 63; refine (hdig.out _).mono ?_; rintro e w1 ⟨rfl, hb1⟩) | (go_at_call 64; refine (hrep.out _).mono ?_; rintro e w2 ⟨rfl, hb2⟩))
  rw [← Ht.out]
  have e1 : IntKind.i64.wrap ((t.size : Int) - (p : Int)) = ((t.size - p : Nat) : Int) := by rw [IntKind.wrap_i64]; omega
  have e2 : (((t.size - p : Nat) : Int)).toNat = t.size - p := Int.toNat_natCast _
  have e3 : ((t.size - p : Nat) : Int) ≤ (t.size : Int) := by omega
  go_quiet (fail)
  go_wp2
  go_ret2
  exact ⟨rfl, bdrew (bstep hb1 hb2) _⟩

set_option maxHeartbeats 800000 in
theorem fixed_neg_zero (n : Nat) (w : World) (hn0 : 1 ≤ n) (hn : n ≤ 9007199254740992) (d : ByteArray) (hd : d.size ≤ 60)
    (hdig : Hid (∀ w, Calls Tryd.prog 63 #[.int .i64 (n : Int), .int .i64 10] w fun e w' => e = .returned (.string d) ∧ Below w.heap.size w w')) :
    Calls Tryd.prog 15 #[.int .i64 (-(n : Int)), .int .i64 0] w fun e w' => e = .returned (.tuple #[.string (⟨#[45]⟩ ++ d), .int .i64 0]) ∧ Below w.heap.size w w' := by
  go_enter Tryd.func15, Tryd.ntmps15
  go_wp2_with (first | (go_at_call 62; refine (right_yes _ _ (by omega) (by omega)).mono ?_; rintro e w' ⟨rfl, rfl⟩) | (go_at_call 63; refine (hdig.out _).mono ?_; rintro e w1 ⟨rfl, hb1⟩))
  go_ret2
  exact ⟨rfl, hb1⟩

set_option maxHeartbeats 800000 in
theorem fixed_neg_long (n p : Nat) (w : World) (hn0 : 1 ≤ n) (hn : n ≤ 9007199254740992) (hp : 1 ≤ p) (hp2 : p ≤ 15) (d : ByteArray) (hd : d.size ≤ 60) (hlt : p < d.size)
    (hdig : Hid (∀ w, Calls Tryd.prog 63 #[.int .i64 (n : Int), .int .i64 10] w fun e w' => e = .returned (.string d) ∧ Below w.heap.size w w')) :
    Calls Tryd.prog 15 #[.int .i64 (-(n : Int)), .int .i64 (p : Int)] w fun e w' => e = .returned (.tuple #[.string (fixJoin ⟨#[45]⟩ d (d.size - p)), .int .i64 0]) ∧ Below w.heap.size w w' := by
  have hp0 : (((p : Int)) == 0) = false := by simp; omega
  go_enter Tryd.func15, Tryd.ntmps15
  go_upto_region 13 with (first | (go_at_call 62; refine (right_yes _ _ (by omega) (by omega)).mono ?_; rintro e w' ⟨rfl, rfl⟩) | (go_at_call 63; refine (hdig.out _).mono ?_; rintro e w1 ⟨rfl, hb1⟩))
  have e1 : IntKind.i64.wrap ((d.size : Int) - (p : Int)) = ((d.size - p : Nat) : Int) := by rw [IntKind.wrap_i64]; omega
  have e2 : (((d.size - p : Nat) : Int)).toNat = d.size - p := Int.toNat_natCast _
  have e3 : ((d.size - p : Nat) : Int) ≤ (d.size : Int) := by omega
  go_quiet (fail)
  go_wp2
  go_ret2
  exact ⟨rfl, bdrew hb1 _⟩

set_option maxHeartbeats 800000 in
theorem fixed_neg_short (n p : Nat) (w : World) (hn0 : 1 ≤ n) (hn : n ≤ 9007199254740992) (hp : 1 ≤ p) (hp2 : p ≤ 15) (d z : ByteArray) (hd : d.size ≤ p) (hz : z.size ≤ 16) (hzd : p ≤ (z ++ d).size)
    (hdig : Hid (∀ w, Calls Tryd.prog 63 #[.int .i64 (n : Int), .int .i64 10] w fun e w' => e = .returned (.string d) ∧ Below w.heap.size w w'))
    (hrep : Hid (∀ w, Calls Tryd.prog 64 #[.string ⟨#[48]⟩, .int .i64 ((p : Int) + 1 - (d.size : Int))] w fun e w' => e = .returned (.string z) ∧ Below w.heap.size w w')) :
    Calls Tryd.prog 15 #[.int .i64 (-(n : Int)), .int .i64 (p : Int)] w fun e w' => e = .returned (.tuple #[.string (fixJoin ⟨#[45]⟩ (z ++ d) ((z ++ d).size - p)), .int .i64 0]) ∧ Below w.heap.size w w' := by
  have hp0 : (((p : Int)) == 0) = false := by simp; omega
  obtain ⟨t, ht⟩ : ∃ t, t = z ++ d := ⟨_, rfl⟩
  have htl : t.size ≤ 40 := by rw [ht, ByteArray.size_append]; omega
  rw [← ht] at hzd ⊢
  have Ht := Lib.hid ht
  clear ht
  go_enter Tryd.func15, Tryd.ntmps15
  go_upto_region 13 with (first | (go_at_call 62; refine (right_yes _ _ (by omega) (by omega)).mono ?_; rintro e w' ⟨rfl, rfl⟩) | (go_at_call 63; refine (hdig.out _).mono ?_; rintro e w1 ⟨rfl, hb1⟩) | (go_at_call 64; refine (hrep.out _).mono ?_; rintro e w2 ⟨rfl, hb2⟩))
  rw [← Ht.out]
  have e1 : IntKind.i64.wrap ((t.size : Int) - (p : Int)) = ((t.size - p : Nat) : Int) := by rw [IntKind.wrap_i64]; omega
  have e2 : (((t.size - p : Nat) : Int)).toNat = t.size - p := Int.toNat_natCast _
  have e3 : ((t.size - p : Nat) : Int) ≤ (t.size : Int) := by omega
  go_quiet (fail)
  go_wp2
  go_ret2
  exact ⟨rfl, bdrew (bstep hb1 hb2) _⟩

/-- What Fixed returns. -/
def fixedN (n p : Int) : ByteArray × Int :=
  if p < 0 ∨ 15 < p then (⟨#[]⟩, 1) else if n < -9007199254740992 ∨ 9007199254740992 < n then (⟨#[]⟩, 11) else
    if p = 0 then ((if n < 0 then ⟨#[45]⟩ else ⟨#[]⟩) ++ ⟨(Num.num 10 n.natAbs).toArray⟩, 0) else
      if (Num.num 10 n.natAbs).length ≤ p.toNat then
        (fixJoin (if n < 0 then ⟨#[45]⟩ else ⟨#[]⟩) (⟨(List.replicate (p.toNat + 1 - (Num.num 10 n.natAbs).length) 48).toArray⟩ ++ ⟨(Num.num 10 n.natAbs).toArray⟩) 1, 0)
      else (fixJoin (if n < 0 then ⟨#[45]⟩ else ⟨#[]⟩) ⟨(Num.num 10 n.natAbs).toArray⟩ ((Num.num 10 n.natAbs).length - p.toNat), 0)

theorem repeatL_one (c : UInt8) : ∀ n, Lib.repeatL [c] n = List.replicate n c
  | 0 => rfl
  | n + 1 => by rw [Lib.repeatL, repeatL_one c n]; rfl

set_option maxHeartbeats 400000 in
theorem fixed_arg (n p : Int) (w : World) (h : p < 0 ∨ 15 < p) : Calls Tryd.prog 15 #[.int .i64 n, .int .i64 p] w fun e w' => e = .returned (.tuple #[.string ⟨#[]⟩, .int .i64 1]) ∧ Below w.heap.size w w' := by
  by_cases h1 : p < 0
  · clear h
    go_enter Tryd.func15, Tryd.ntmps15
    go_wp2
    go_ret2
    exact ⟨rfl, Below.refl _ _⟩
  · have h2 : 15 < p := by omega
    clear h
    go_enter Tryd.func15, Tryd.ntmps15
    go_wp2
    go_ret2
    exact ⟨rfl, Below.refl _ _⟩

set_option maxHeartbeats 400000 in
theorem fixed_range (n p : Int) (w : World) (h0 : 0 ≤ p) (h1 : p ≤ 15) (h : n < -9007199254740992 ∨ 9007199254740992 < n) : Calls Tryd.prog 15 #[.int .i64 n, .int .i64 p] w fun e w' => e = .returned (.tuple #[.string ⟨#[]⟩, .int .i64 11]) ∧ Below w.heap.size w w' := by
  have hr := Lib.hid (fun w => right_no n w h)
  clear h
  go_enter Tryd.func15, Tryd.ntmps15
  go_wp2_with (first | (go_at_call 62; refine (hr.out _).mono ?_; rintro e w' ⟨rfl, rfl⟩))
  go_ret2
  exact ⟨rfl, Below.refl _ _⟩

theorem fixed_any (n p : Int) (w : World) : Calls Tryd.prog 15 #[.int .i64 n, .int .i64 p] w fun e w' => e = .returned (.tuple #[.string (fixedN n p).1, .int .i64 (fixedN n p).2]) ∧ Below w.heap.size w w' := by
  unfold fixedN
  by_cases h1 : p < 0 ∨ 15 < p
  · rw [if_pos h1]; exact fixed_arg n p w h1
  · rw [if_neg h1]
    by_cases h2 : n < -9007199254740992 ∨ 9007199254740992 < n
    · rw [if_pos h2]; exact fixed_range n p w (by omega) (by omega) h2
    · rw [if_neg h2]
      obtain ⟨q, rfl⟩ := Int.eq_ofNat_of_zero_le (show 0 ≤ p by omega)
      obtain ⟨a, ha⟩ : ∃ a, a = n.natAbs := ⟨_, rfl⟩
      rw [← ha, Int.toNat_natCast]
      have hdig : Hid (∀ w, Calls Tryd.prog 63 #[.int .i64 (a : Int), .int .i64 10] w fun e w' => e = .returned (.string ⟨(Num.num 10 a).toArray⟩) ∧ Below w.heap.size w w') := Lib.hid fun w => digits_any a 10 w (by omega) (by omega) (by omega)
      have hlen := Num.num_length_le (b := 10) (by omega) 54 a (by omega)
      have hsz : (⟨(Num.num 10 a).toArray⟩ : ByteArray).size = (Num.num 10 a).length := by show (Num.num 10 a).toArray.size = _; simp
      have hrep : (Num.num 10 a).length ≤ q → Hid (∀ w, Calls Tryd.prog 64 #[.string ⟨#[48]⟩, .int .i64 ((q : Int) + 1 - ((⟨(Num.num 10 a).toArray⟩ : ByteArray).size : Int))] w fun e w' => e = .returned (.string ⟨(List.replicate (q + 1 - (Num.num 10 a).length) 48).toArray⟩) ∧ Below w.heap.size w w') := by
        intro hq
        refine Lib.hid fun w => ?_
        have := repeat_any ⟨#[48]⟩ ((q : Int) + 1 - ((⟨(Num.num 10 a).toArray⟩ : ByteArray).size : Int)) w (by omega) (by omega) (by show 1 * _ ≤ _; omega)
        have e : ((q : Int) + 1 - ((⟨(Num.num 10 a).toArray⟩ : ByteArray).size : Int)).toNat = q + 1 - (Num.num 10 a).length := by omega
        rw [e] at this
        have e2 : Lib.repeatL (⟨#[48]⟩ : ByteArray).data.toList (q + 1 - (Num.num 10 a).length) = List.replicate (q + 1 - (Num.num 10 a).length) 48 := repeatL_one 48 _
        rw [e2] at this
        exact this
      have hz : ∀ k, (⟨(List.replicate k (48 : UInt8)).toArray⟩ : ByteArray).size = k := fun k => by show (List.replicate k (48 : UInt8)).toArray.size = k; simp
      have hsum : (Num.num 10 a).length ≤ q → ((⟨(List.replicate (q + 1 - (Num.num 10 a).length) (48 : UInt8)).toArray⟩ : ByteArray) ++ ⟨(Num.num 10 a).toArray⟩).size = q + 1 := by
        intro hq; rw [ByteArray.size_append, hz, hsz]; omega
      by_cases hn : n < 0
      · simp only [hn, if_true]
        have en : n = -(a : Int) := by omega
        rw [en]
        by_cases hq0 : q = 0
        · subst hq0
          rw [if_pos (show ((0 : Nat) : Int) = 0 from rfl)]
          exact fixed_neg_zero a w (by omega) (by omega) _ (by omega) hdig
        · rw [if_neg (by omega)]
          by_cases hq : (Num.num 10 a).length ≤ q
          · rw [if_pos hq]
            have := fixed_neg_short a q w (by omega) (by omega) (by omega) (by omega) _ _ (by omega) (by rw [hz]; omega) (by rw [hsum hq]; omega) hdig (hrep hq)
            rw [hsum hq, show q + 1 - q = 1 by omega] at this
            exact this
          · rw [if_neg hq]
            have := fixed_neg_long a q w (by omega) (by omega) (by omega) (by omega) _ (by omega) (by omega) hdig
            rw [hsz] at this
            exact this
      · simp only [hn, if_false]
        have en : n = (a : Int) := by omega
        rw [en]
        by_cases hq0 : q = 0
        · subst hq0
          rw [if_pos (show ((0 : Nat) : Int) = 0 from rfl)]
          exact fixed_pos_zero a w (by omega) _ (by omega) hdig
        · rw [if_neg (by omega)]
          by_cases hq : (Num.num 10 a).length ≤ q
          · rw [if_pos hq]
            have := fixed_pos_short a q w (by omega) (by omega) (by omega) _ _ (by omega) (by rw [hz]; omega) (by rw [hsum hq]; omega) hdig (hrep hq)
            rw [hsum hq, show q + 1 - q = 1 by omega] at this
            exact this
          · rw [if_neg hq]
            have := fixed_pos_long a q w (by omega) (by omega) (by omega) _ (by omega) (by omega) hdig
            rw [hsz] at this
            exact this

end Go.Proofs.YtnjjilnfpdepoaaDoor
