/- What the law DecimalPoints uses, function by function: a plain Lean function, and that the Go code comes to its answers; laid by wip/xprint.py out of the translation; no condition. -/
import Derived.Test.YtnjjilnfpdepoaaDoorPDecimalPointsx0
import Derived.Test.YtnjjilnfpdepoaaDoorPDecimalPointsx1
import Derived.Test.YtnjjilnfpdepoaaDoorPDecimalPointsx2
namespace Go.Proofs.YtnjjilnfpdepoaaDoor.PDecimalPoints
open Go.RowKit Go.Proofs.YtnjjilnfpdepoaaDoorW.PrintWords Go.Proofs.YtnjjilnfpdepoaaDoorW.PrintLast Go.Proofs.YtnjjilnfpdepoaaDoorW.PrintMore
attribute [local go_sem] max2_int min2_int max_two min_two max_three min_three max_four min_four   -- for this text's walks alone
set_option linter.unusedVariables false
set_option linter.unusedSimpArgs false

/-! ### clapref1_Whole: function 70 -/
mutual
def clapref1_Whole.j0 : Nat → Int → ByteArray → Bool → Option (Bool)
  | 0, _, _, _ => none
  | k + 1, x1, x5, x30 => if x30 = true then (some false) else (if 0 ≤ x1 then (if x1 ≤ 36 then (clapref1_Whole.l0 k x5 ((⟨#[48, 49, 50, 51, 52, 53, 54, 55, 56, 57, 97, 98, 99, 100, 101, 102, 103, 104, 105, 106, 107, 108, 109, 110, 111, 112, 113, 114, 115, 116, 117, 118, 119, 120, 121, 122]⟩ : ByteArray).extract 0 (x1 : Int).toNat) (x5.size : Int) 0) else (none)) else (none))
def clapref1_Whole.l0 : Nat → ByteArray → ByteArray → Int → Int → Option (Bool)
  | 0, _, _, _, _ => none
  | k + 1, x5, x6, x34, x35 => if x35 < x34 then (if 0 ≤ x35 then (if x35 < (x5.size : Int) then ((strings_IndexByte.f x6 (bt x5 x35)).bind fun t125 => (if t125 < 0 then (some false) else (clapref1_Whole.l0 k x5 x6 x34 (wrap64 (x35 + 1))))) else (none)) else (none)) else (some true)
end
def clapref1_Whole.f (k : Nat) (a0 : ByteArray) (a1 : Int) : Option (Bool) := (strings_TrimPrefix.f a0 (⟨#[45]⟩ : ByteArray)).bind fun t124 => (if t124.toList = ([] : List UInt8) then (clapref1_Whole.j0 k a1 t124 true) else (if t124.toList = a0.toList then (if (t124.size : Int) > 1 then (if 0 < (t124.size : Int) then (clapref1_Whole.j0 k a1 t124 ((bt t124 0) == 48)) else (none)) else (clapref1_Whole.j0 k a1 t124 false)) else (if t124.toList = ([48] : List UInt8) then (clapref1_Whole.j0 k a1 t124 true) else (if (t124.size : Int) > 1 then (if 0 < (t124.size : Int) then (clapref1_Whole.j0 k a1 t124 ((bt t124 0) == 48)) else (none)) else (clapref1_Whole.j0 k a1 t124 false)))))
theorem clapref1_Whole.mono_l : ∀ k, (∀ y0 y1 y2, LeO (clapref1_Whole.j0 k y0 y1 y2) (clapref1_Whole.j0 (k + 1) y0 y1 y2)) ∧ (∀ y0 y1 y2 y3, LeO (clapref1_Whole.l0 k y0 y1 y2 y3) (clapref1_Whole.l0 (k + 1) y0 y1 y2 y3))
  | 0 => ⟨fun _ _ _ r h => by simp [clapref1_Whole.j0] at h, fun _ _ _ _ r h => by simp [clapref1_Whole.l0] at h⟩
  | k + 1 => by
    obtain ⟨ih0, ih1⟩ := clapref1_Whole.mono_l k
    refine ⟨?_, ?_⟩
    · intro y0 y1 y2
      unfold clapref1_Whole.j0
      repeat' first
      | (with_reducible exact ih0 _ _ _)
      | (with_reducible exact ih1 _ _ _ _)
      | (with_reducible exact LeO.refl _)
      | (with_reducible exact LeO.none _)
      | (with_reducible refine LeO.ite ?_ ?_)
      | (with_reducible refine LeO.bind ?_ (fun _ => ?_))
      | exact ih0 _ _ _
      | exact ih1 _ _ _ _
      | exact LeO.none _
      | refine LeO.ite ?_ ?_
      | refine LeO.bind ?_ (fun _ => ?_)
    · intro y0 y1 y2 y3
      unfold clapref1_Whole.l0
      repeat' first
      | (with_reducible exact ih0 _ _ _)
      | (with_reducible exact ih1 _ _ _ _)
      | (with_reducible exact LeO.refl _)
      | (with_reducible exact LeO.none _)
      | (with_reducible refine LeO.ite ?_ ?_)
      | (with_reducible refine LeO.bind ?_ (fun _ => ?_))
      | exact ih0 _ _ _
      | exact ih1 _ _ _ _
      | exact LeO.none _
      | refine LeO.ite ?_ ?_
      | refine LeO.bind ?_ (fun _ => ?_)
theorem clapref1_Whole.mono : ∀ a0 a1 k, LeO (clapref1_Whole.f k a0 a1) (clapref1_Whole.f (k + 1) a0 a1) := by
  intro a0 a1 k
  obtain ⟨ih0, ih1⟩ := clapref1_Whole.mono_l k
  unfold clapref1_Whole.f
  repeat' first
      | (with_reducible exact ih0 _ _ _)
      | (with_reducible exact ih1 _ _ _ _)
      | (with_reducible exact LeO.refl _)
      | (with_reducible exact LeO.none _)
      | (with_reducible refine LeO.ite ?_ ?_)
      | (with_reducible refine LeO.bind ?_ (fun _ => ?_))
      | exact ih0 _ _ _
      | exact ih1 _ _ _ _
      | exact LeO.none _
      | refine LeO.ite ?_ ?_
      | refine LeO.bind ?_ (fun _ => ?_)
set_option maxHeartbeats 8000000 in
set_option maxRecDepth 100000 in
theorem clapref1_Whole.calls (k : Nat) (a0 : ByteArray) (a1 : Int) (r : Bool) (w : World) (h : clapref1_Whole.f k a0 a1 = some r) :
    Calls Tryd.prog 70 #[.string a0, .int .i64 a1] w fun e w' => e = .returned (.bool r) ∧ Drawn0 w w' := by
  have H : ((strings_TrimPrefix.f a0 (⟨#[45]⟩ : ByteArray)).bind fun t124 => (if t124.toList = ([] : List UInt8) then (clapref1_Whole.j0 k a1 t124 true) else (if t124.toList = a0.toList then (if (t124.size : Int) > 1 then (if 0 < (t124.size : Int) then (clapref1_Whole.j0 k a1 t124 ((bt t124 0) == 48)) else (none)) else (clapref1_Whole.j0 k a1 t124 false)) else (if t124.toList = ([48] : List UInt8) then (clapref1_Whole.j0 k a1 t124 true) else (if (t124.size : Int) > 1 then (if 0 < (t124.size : Int) then (clapref1_Whole.j0 k a1 t124 ((bt t124 0) == 48)) else (none)) else (clapref1_Whole.j0 k a1 t124 false)))))) = some r := h
  clear h
  replace H := Option.bind_eq_some_iff.mp H
  obtain ⟨t124, A30, H⟩ := H
  replace H : (if t124.toList = ([] : List UInt8) then (clapref1_Whole.j0 k a1 t124 true) else (if t124.toList = a0.toList then (if (t124.size : Int) > 1 then (if 0 < (t124.size : Int) then (clapref1_Whole.j0 k a1 t124 ((bt t124 0) == 48)) else (none)) else (clapref1_Whole.j0 k a1 t124 false)) else (if t124.toList = ([48] : List UInt8) then (clapref1_Whole.j0 k a1 t124 true) else (if (t124.size : Int) > 1 then (if 0 < (t124.size : Int) then (clapref1_Whole.j0 k a1 t124 ((bt t124 0) == 48)) else (none)) else (clapref1_Whole.j0 k a1 t124 false))))) = some r := H
  have A3 := Aside0.mk A30
  clear A30
  have HC4 := Aside0.mk H
  clear H
  go_enter Tryd.func70, Tryd.ntmps70
  go_upto_region 2 with (first | ((with_reducible refine gate_callee (f := 23) rfl ?_); refine goesL_ (some 9) rfl rfl Tryd.func23 (by kernel_rfl) rfl #[.string a0, .string (⟨#[45]⟩ : ByteArray)] rfl (by (try simp only [List.map_toArray, List.map_cons, List.map_nil]); first | done | rfl | (simp only [List.length_drop, List.length_take]; rfl)) ?_; (with_reducible refine (strings_TrimPrefix.calls a0 (⟨#[45]⟩ : ByteArray) t124 _ A3.out).mono ?_); rintro e w' ⟨rfl, ⟨nd, rfl⟩⟩; refine ⟨_, rfl, ?_⟩))
  (try simp only [Act.put, List.setIfInBounds_toArray, List.set_cons_zero, List.set_cons_succ])
  go_cut [30] (fun v30 wc => ∃ (kq : Nat) (x30_3 : Bool), v30 = .bool x30_3 ∧ Aside0 (clapref1_Whole.j0 kq a1 t124 x30_3 = some r) ∧ Aside0 (kq ≤ k) ∧ Drawn0 w wc)
  case first =>
    have H := HC4.out
    clear HC4
    by_cases c5 : t124.toList = ([] : List UInt8)
    · rw [if_pos c5] at H
      have c5b0 : (t124.toList == ([] : List UInt8)) = true := beq_iff_eq.mpr c5
      have c5b1 : (t124.toList != ([] : List UInt8)) = false := bne_eq_false_iff_eq.mpr c5
      have c5b2 : t124.toList.isEmpty = true := by simpa using c5
      clear c5
      (first | rw [c5b0] | (simp only [i64_w, i32_w]; rw [c5b0]) | rw [c5b2] | skip)
      have H' := Aside0.mk H
      clear H
      go_wp2
      go_meet
      case rel => exact ⟨_, (true), (by first | rfl | (simp; done) | (simp [*]; done)), H', ⟨by first | omega | exact Nat.le_refl _⟩, by repeat (first | exact Drawn0.refl _ | apply Drawn0.step)⟩
    · rw [if_neg c5] at H
      have c5b0 : (t124.toList == ([] : List UInt8)) = false := beq_eq_false_iff_ne.mpr c5
      have c5b1 : (t124.toList != ([] : List UInt8)) = true := bne_iff_ne.mpr c5
      have c5b2 : t124.toList.isEmpty = false := by simpa using c5
      (first | rw [c5b0] | (simp only [i64_w, i32_w]; rw [c5b0]) | rw [c5b2] | skip)
      by_cases c6 : t124.toList = a0.toList
      · rw [if_pos c6] at H
        have c6b0 : (t124.toList == a0.toList) = true := beq_iff_eq.mpr c6
        have c6b1 : (t124.toList != a0.toList) = false := bne_eq_false_iff_eq.mpr c6
        clear c6
        by_cases c7 : (t124.size : Int) > 1
        · rw [if_pos c7] at H
          have c7b0 : decide (1 < (t124.size : Int)) = true := decide_eq_true c7
          have c7b1 : decide (1 < t124.size) = true := decide_eq_true (by omega)
          clear c7
          by_cases c8 : 0 < (t124.size : Int)
          · rw [if_pos c8] at H
            have c8b0 : decide (0 < (t124.size : Int)) = true := decide_eq_true c8
            have c8b1 : decide (0 < t124.size) = true := decide_eq_true (by omega)
            clear c8
            have H' := Aside0.mk H
            clear H
            have p9 : 0 ≤ (0 : Int) := (by omega)
            have q9 : 0 < t124.size := (by have : (0 : Int) < (t124.size : Int) := of_decide_eq_true (by first | (with_reducible assumption) | assumption); omega)
            have hx9 : ∀ h : 0 < t124.size, ((t124[0]'h).toNat : Int) = bt t124 0 := bt_at t124 0
            clear p9
            have qi9 : (0 < (t124.size : Int)) = True := eq_true (of_decide_eq_true (by first | (with_reducible assumption) | assumption))
            replace q9 := eq_true q9
            go_wp2
            go_meet
            case rel => exact ⟨_, (((bt t124 0) == 48)), (by first | rfl | (simp; done) | (simp [*]; done)), H', ⟨by first | omega | exact Nat.le_refl _⟩, by repeat (first | exact Drawn0.refl _ | apply Drawn0.step)⟩
          · rw [if_neg c8] at H
            exact absurd H (by simp)
        · rw [if_neg c7] at H
          have c7b0 : decide (1 < (t124.size : Int)) = false := decide_eq_false c7
          have c7b1 : decide (1 < t124.size) = false := decide_eq_false (by omega)
          clear c7
          have H' := Aside0.mk H
          clear H
          go_wp2
          go_meet
          case rel => exact ⟨_, (false), (by first | rfl | (simp; done) | (simp [*]; done)), H', ⟨by first | omega | exact Nat.le_refl _⟩, by repeat (first | exact Drawn0.refl _ | apply Drawn0.step)⟩
      · rw [if_neg c6] at H
        have c6b0 : (t124.toList == a0.toList) = false := beq_eq_false_iff_ne.mpr c6
        have c6b1 : (t124.toList != a0.toList) = true := bne_iff_ne.mpr c6
        by_cases c10 : t124.toList = ([48] : List UInt8)
        · rw [if_pos c10] at H
          have c10b0 : (t124.toList == ([48] : List UInt8)) = true := beq_iff_eq.mpr c10
          have c10b1 : (t124.toList != ([48] : List UInt8)) = false := bne_eq_false_iff_eq.mpr c10
          clear c10
          have H' := Aside0.mk H
          clear H
          go_wp2
          go_meet
          case rel => exact ⟨_, (true), (by first | rfl | (simp; done) | (simp [*]; done)), H', ⟨by first | omega | exact Nat.le_refl _⟩, by repeat (first | exact Drawn0.refl _ | apply Drawn0.step)⟩
        · rw [if_neg c10] at H
          have c10b0 : (t124.toList == ([48] : List UInt8)) = false := beq_eq_false_iff_ne.mpr c10
          have c10b1 : (t124.toList != ([48] : List UInt8)) = true := bne_iff_ne.mpr c10
          by_cases c11 : (t124.size : Int) > 1
          · rw [if_pos c11] at H
            have c11b0 : decide (1 < (t124.size : Int)) = true := decide_eq_true c11
            have c11b1 : decide (1 < t124.size) = true := decide_eq_true (by omega)
            clear c11
            by_cases c12 : 0 < (t124.size : Int)
            · rw [if_pos c12] at H
              have c12b0 : decide (0 < (t124.size : Int)) = true := decide_eq_true c12
              have c12b1 : decide (0 < t124.size) = true := decide_eq_true (by omega)
              clear c12
              have H' := Aside0.mk H
              clear H
              have p13 : 0 ≤ (0 : Int) := (by omega)
              have q13 : 0 < t124.size := (by have : (0 : Int) < (t124.size : Int) := of_decide_eq_true (by first | (with_reducible assumption) | assumption); omega)
              have hx13 : ∀ h : 0 < t124.size, ((t124[0]'h).toNat : Int) = bt t124 0 := bt_at t124 0
              clear p13
              have qi13 : (0 < (t124.size : Int)) = True := eq_true (of_decide_eq_true (by first | (with_reducible assumption) | assumption))
              replace q13 := eq_true q13
              go_wp2
              go_meet
              case rel => exact ⟨_, (((bt t124 0) == 48)), (by first | rfl | (simp; done) | (simp [*]; done)), H', ⟨by first | omega | exact Nat.le_refl _⟩, by repeat (first | exact Drawn0.refl _ | apply Drawn0.step)⟩
            · rw [if_neg c12] at H
              exact absurd H (by simp)
          · rw [if_neg c11] at H
            have c11b0 : decide (1 < (t124.size : Int)) = false := decide_eq_false c11
            have c11b1 : decide (1 < t124.size) = false := decide_eq_false (by omega)
            clear c11
            have H' := Aside0.mk H
            clear H
            go_wp2
            go_meet
            case rel => exact ⟨_, (false), (by first | rfl | (simp; done) | (simp [*]; done)), H', ⟨by first | omega | exact Nat.le_refl _⟩, by repeat (first | exact Drawn0.refl _ | apply Drawn0.step)⟩
  case rest =>
    clear HC4
    try clear c1
    try clear p1
    try clear q1
    try clear hx1
    try clear qi1
    try clear c2
    try clear p2
    try clear c5
    try clear c5b0
    try clear c5b1
    try clear c5b2
    try clear c6
    try clear c6b0
    try clear c6b1
    try clear c7
    try clear c7b0
    try clear c7b1
    try clear c8
    try clear c8b0
    try clear c8b1
    try clear p9
    try clear q9
    try clear hx9
    try clear qi9
    try clear c10
    try clear c10b0
    try clear c10b1
    try clear c11
    try clear c11b0
    try clear c11b1
    try clear c12
    try clear c12b0
    try clear c12b1
    try clear p13
    try clear q13
    try clear hx13
    try clear qi13
    try clear p13
    try clear p9
    try clear q13
    try clear q9
    obtain ⟨kq, x30_3, rfl, HA, HJ3, ⟨mc3, rfl⟩⟩ := hcut
    cases kq with
    | zero => exact absurd HA.out (by simp [clapref1_Whole.j0])
    | succ kj3 =>
      have H := HA.out
      clear HA
      simp only [clapref1_Whole.j0] at H
      by_cases c14 : x30_3 = true
      · subst c14
        have H1 : (some false) = some r := by rw [if_pos rfl] at H; exact H
        clear H
        have H := H1
        clear H1
        obtain rfl := Option.some.inj H
        go_wp2
        go_ret
        exact ⟨by first | rfl | (simp; done) | (simp [*]; done), by repeat (first | exact Drawn0.refl _ | apply Drawn0.step)⟩
      · replace c14 := Bool.eq_false_iff.mpr c14
        subst c14
        have H1 : (if 0 ≤ a1 then (if a1 ≤ 36 then (clapref1_Whole.l0 kj3 t124 ((⟨#[48, 49, 50, 51, 52, 53, 54, 55, 56, 57, 97, 98, 99, 100, 101, 102, 103, 104, 105, 106, 107, 108, 109, 110, 111, 112, 113, 114, 115, 116, 117, 118, 119, 120, 121, 122]⟩ : ByteArray).extract 0 (a1 : Int).toNat) (t124.size : Int) 0) else (none)) else (none)) = some r := by rw [if_neg (show ¬ (false = true) by decide)] at H; exact H
        clear H
        have H := H1
        clear H1
        by_cases c15 : 0 ≤ a1
        · rw [if_pos c15] at H
          have c15b0 := eq_true c15
          have c15b1 : decide (0 ≤ a1) = true := decide_eq_true c15
          clear c15
          by_cases c16 : a1 ≤ 36
          · rw [if_pos c16] at H
            have c16b0 := eq_true c16
            have c16b1 : decide (a1 ≤ 36) = true := decide_eq_true c16
            clear c16
            have H' := Aside0.mk H
            clear H
            go_wp2
            go_loopg [35] kj3 (fun kq v35 w' => ∃ (x35_2 : Int), v35 = .int .i64 x35_2 ∧ Aside0 (clapref1_Whole.l0 kq t124 ((⟨#[48, 49, 50, 51, 52, 53, 54, 55, 56, 57, 97, 98, 99, 100, 101, 102, 103, 104, 105, 106, 107, 108, 109, 110, 111, 112, 113, 114, 115, 116, 117, 118, 119, 120, 121, 122]⟩ : ByteArray).extract 0 (a1 : Int).toNat) (t124.size : Int) x35_2 = some r) ∧ Aside0 (kq ≤ kj3) ∧ Drawn0 w w')
            case atStart => exact ⟨(0), (by first | rfl | (simp; done) | (simp [*]; done)), H', ⟨Nat.le_refl _⟩, by repeat (first | exact Drawn0.refl _ | apply Drawn0.step)⟩
            case round =>
              clear H'
              try clear c1
              try clear p1
              try clear q1
              try clear hx1
              try clear qi1
              try clear c2
              try clear p2
              try clear c3
              try clear c5
              try clear c5b0
              try clear c5b1
              try clear c5b2
              try clear c6
              try clear c6b0
              try clear c6b1
              try clear c7
              try clear c7b0
              try clear c7b1
              try clear c8
              try clear c8b0
              try clear c8b1
              try clear p9
              try clear q9
              try clear hx9
              try clear qi9
              try clear c10
              try clear c10b0
              try clear c10b1
              try clear c11
              try clear c11b0
              try clear c11b1
              try clear c12
              try clear c12b0
              try clear c12b1
              try clear p13
              try clear q13
              try clear hx13
              try clear qi13
              try clear c14
              try clear c15
              try clear c15b0
              try clear c15b1
              try clear c16
              try clear c16b0
              try clear c16b1
              try clear p1
              try clear p13
              try clear p2
              try clear p9
              try clear q1
              try clear q13
              try clear q9
              obtain ⟨x35_2, rfl, HA, HK2, ⟨m2, rfl⟩⟩ := hrel
              cases gk with
              | zero => exact absurd HA.out (by simp [clapref1_Whole.l0])
              | succ k2 =>
                have H := HA.out
                clear HA
                simp only [clapref1_Whole.l0] at H
                by_cases c17 : x35_2 < (t124.size : Int)
                · rw [if_pos c17] at H
                  have c17b0 : decide (x35_2 < (t124.size : Int)) = true := decide_eq_true c17
                  clear c17
                  by_cases c18 : 0 ≤ x35_2
                  · rw [if_pos c18] at H
                    have c18b0 : decide (0 ≤ x35_2) = true := decide_eq_true c18
                    clear c18
                    by_cases c19 : x35_2 < (t124.size : Int)
                    · rw [if_pos c19] at H
                      have c19b0 : decide (x35_2 < (t124.size : Int)) = true := decide_eq_true c19
                      clear c19
                      replace H := Option.bind_eq_some_iff.mp H
                      obtain ⟨t125, A210, H⟩ := H
                      replace H : (if t125 < 0 then (some false) else (clapref1_Whole.l0 k2 t124 ((⟨#[48, 49, 50, 51, 52, 53, 54, 55, 56, 57, 97, 98, 99, 100, 101, 102, 103, 104, 105, 106, 107, 108, 109, 110, 111, 112, 113, 114, 115, 116, 117, 118, 119, 120, 121, 122]⟩ : ByteArray).extract 0 (a1 : Int).toNat) (t124.size : Int) (wrap64 (x35_2 + 1)))) = some r := H
                      have A21 := Aside0.mk A210
                      clear A210
                      by_cases c22 : t125 < 0
                      · rw [if_pos c22] at H
                        have c22b0 : decide (t125 < 0) = true := decide_eq_true c22
                        clear c22
                        obtain rfl := Option.some.inj H
                        have p20 : 0 ≤ (x35_2 : Int) := of_decide_eq_true (by first | (with_reducible assumption) | assumption)
                        have q20 : x35_2 < (t124.size : Int) := of_decide_eq_true (by first | (with_reducible assumption) | assumption)
                        have hx20 := bt_at t124 x35_2
                        replace p20 := eq_true p20
                        replace q20 := eq_true q20
                        go_wp2_with (first | ((with_reducible refine gate_callee (f := 27) rfl ?_); refine goesL_ (some 42) rfl rfl Tryd.func27 (by kernel_rfl) rfl #[.string ((⟨#[48, 49, 50, 51, 52, 53, 54, 55, 56, 57, 97, 98, 99, 100, 101, 102, 103, 104, 105, 106, 107, 108, 109, 110, 111, 112, 113, 114, 115, 116, 117, 118, 119, 120, 121, 122]⟩ : ByteArray).extract 0 (a1 : Int).toNat), .int .u8 (bt t124 x35_2)] rfl (by (try simp only [List.map_toArray, List.map_cons, List.map_nil]); first | done | rfl | (simp only [List.length_drop, List.length_take]; rfl)) ?_; (with_reducible refine (strings_IndexByte.calls ((⟨#[48, 49, 50, 51, 52, 53, 54, 55, 56, 57, 97, 98, 99, 100, 101, 102, 103, 104, 105, 106, 107, 108, 109, 110, 111, 112, 113, 114, 115, 116, 117, 118, 119, 120, 121, 122]⟩ : ByteArray).extract 0 (a1 : Int).toNat) (bt t124 x35_2) t125 _ A21.out).mono ?_); rintro e w' ⟨rfl, ⟨nd, rfl⟩⟩; refine ⟨_, rfl, ?_⟩))
                        go_ret
                        exact ⟨by first | rfl | (simp; done) | (simp [*]; done), by repeat (first | exact Drawn0.refl _ | apply Drawn0.step)⟩
                      · rw [if_neg c22] at H
                        have c22b0 : decide (t125 < 0) = false := decide_eq_false c22
                        clear c22
                        have H' := Aside0.mk H
                        clear H
                        have p20 : 0 ≤ (x35_2 : Int) := of_decide_eq_true (by first | (with_reducible assumption) | assumption)
                        have q20 : x35_2 < (t124.size : Int) := of_decide_eq_true (by first | (with_reducible assumption) | assumption)
                        have hx20 := bt_at t124 x35_2
                        replace p20 := eq_true p20
                        replace q20 := eq_true q20
                        go_wp2_with (first | ((with_reducible refine gate_callee (f := 27) rfl ?_); refine goesL_ (some 42) rfl rfl Tryd.func27 (by kernel_rfl) rfl #[.string ((⟨#[48, 49, 50, 51, 52, 53, 54, 55, 56, 57, 97, 98, 99, 100, 101, 102, 103, 104, 105, 106, 107, 108, 109, 110, 111, 112, 113, 114, 115, 116, 117, 118, 119, 120, 121, 122]⟩ : ByteArray).extract 0 (a1 : Int).toNat), .int .u8 (bt t124 x35_2)] rfl (by (try simp only [List.map_toArray, List.map_cons, List.map_nil]); first | done | rfl | (simp only [List.length_drop, List.length_take]; rfl)) ?_; (with_reducible refine (strings_IndexByte.calls ((⟨#[48, 49, 50, 51, 52, 53, 54, 55, 56, 57, 97, 98, 99, 100, 101, 102, 103, 104, 105, 106, 107, 108, 109, 110, 111, 112, 113, 114, 115, 116, 117, 118, 119, 120, 121, 122]⟩ : ByteArray).extract 0 (a1 : Int).toNat) (bt t124 x35_2) t125 _ A21.out).mono ?_); rintro e w' ⟨rfl, ⟨nd, rfl⟩⟩; refine ⟨_, rfl, ?_⟩))
                        go_roundg k2
                        case measure => have := HJ3.out; have := HK2.out; omega
                        case rel => exact ⟨(wrap64 (x35_2 + 1)), (by first | rfl | (simp; done) | (simp [*]; done)), H', ⟨by have := HJ3.out; have := HK2.out; omega⟩, by repeat (first | exact Drawn0.refl _ | apply Drawn0.step)⟩
                    · rw [if_neg c19] at H
                      exact absurd H (by simp)
                  · rw [if_neg c18] at H
                    exact absurd H (by simp)
                · rw [if_neg c17] at H
                  have c17b0 : decide (x35_2 < (t124.size : Int)) = false := decide_eq_false c17
                  clear c17
                  obtain rfl := Option.some.inj H
                  go_wp2
                  go_ret
                  exact ⟨by first | rfl | (simp; done) | (simp [*]; done), by repeat (first | exact Drawn0.refl _ | apply Drawn0.step)⟩
          · rw [if_neg c16] at H
            exact absurd H (by simp)
        · rw [if_neg c15] at H
          exact absurd H (by simp)

/-! ### claplaw1_pointless: function 20 -/
def claplaw1_pointless.j0 : Nat → ByteArray → ByteArray → ByteArray → ByteArray → Bool → Option (ByteArray × Bool)
  | 0, _, _, _, _, _ => none
  | k + 1, x0, x6, x7, x8, x46 => if x46 = true then (some ((⟨#[]⟩ : ByteArray), false)) else (if x7.size + x8.size ≤ 9223372036854775807 then ((strings_TrimLeft.f (x7 ++ x8) (⟨#[48]⟩ : ByteArray)).bind fun t133 => (if t133.toList = ([] : List UInt8) then (if x6.toList = x0.toList then (some ((⟨#[48]⟩ : ByteArray), (([48] : List UInt8) != ([45, 48] : List UInt8)))) else (if 1 + 1 ≤ 9223372036854775807 then (some ((⟨#[45]⟩ : ByteArray) ++ (⟨#[48]⟩ : ByteArray), (((⟨#[45]⟩ : ByteArray) ++ (⟨#[48]⟩ : ByteArray)).toList != ([45, 48] : List UInt8)))) else (none))) else (if x6.toList = x0.toList then (some (t133, (t133.toList != ([45, 48] : List UInt8)))) else (if 1 + t133.size ≤ 9223372036854775807 then (some ((⟨#[45]⟩ : ByteArray) ++ t133, (((⟨#[45]⟩ : ByteArray) ++ t133).toList != ([45, 48] : List UInt8)))) else (none))))) else (none))
def claplaw1_pointless.f (k : Nat) (a0 : ByteArray) (a1 : Int) : Option (ByteArray × Bool) := if a1 = 0 then ((clapref1_Whole.f k a0 10).bind fun t126 => (some (a0, t126))) else ((strings_TrimPrefix.f a0 (⟨#[45]⟩ : ByteArray)).bind fun t127 => ((strings_Cut.f t127 (⟨#[46]⟩ : ByteArray)).bind fun bt128 => (if bt128.2.2 = true then (if (bt128.2.1.size : Int) = a1 then ((strings_Trim.f bt128.2.1 (⟨#[48, 49, 50, 51, 52, 53, 54, 55, 56, 57]⟩ : ByteArray)).bind fun t131 => (if t131.toList = ([] : List UInt8) then ((clapref1_Whole.f k bt128.1 10).bind fun t132 => (if t132 = true then (if 0 < (bt128.1.size : Int) then (claplaw1_pointless.j0 k a0 t127 bt128.1 bt128.2.1 ((bt bt128.1 0) == 45)) else (none)) else (claplaw1_pointless.j0 k a0 t127 bt128.1 bt128.2.1 true))) else (claplaw1_pointless.j0 k a0 t127 bt128.1 bt128.2.1 true))) else (claplaw1_pointless.j0 k a0 t127 bt128.1 bt128.2.1 true)) else (claplaw1_pointless.j0 k a0 t127 bt128.1 bt128.2.1 true))))
theorem claplaw1_pointless.mono_l : ∀ k, (∀ y0 y1 y2 y3 y4, LeO (claplaw1_pointless.j0 k y0 y1 y2 y3 y4) (claplaw1_pointless.j0 (k + 1) y0 y1 y2 y3 y4))
  | 0 => fun _ _ _ _ _ r h => by simp [claplaw1_pointless.j0] at h
  | k + 1 => by
    have ih0 := claplaw1_pointless.mono_l k
    · intro y0 y1 y2 y3 y4
      unfold claplaw1_pointless.j0
      repeat' first
      | (with_reducible exact ih0 _ _ _ _ _)
      | (with_reducible exact clapref1_Whole.mono _ _ _)
      | (with_reducible exact LeO.refl _)
      | (with_reducible exact LeO.none _)
      | (with_reducible refine LeO.ite ?_ ?_)
      | (with_reducible refine LeO.bind ?_ (fun _ => ?_))
      | exact ih0 _ _ _ _ _
      | exact clapref1_Whole.mono _ _ _
      | exact LeO.none _
      | refine LeO.ite ?_ ?_
      | refine LeO.bind ?_ (fun _ => ?_)
theorem claplaw1_pointless.mono : ∀ a0 a1 k, LeO (claplaw1_pointless.f k a0 a1) (claplaw1_pointless.f (k + 1) a0 a1) := by
  intro a0 a1 k
  have ih0 := claplaw1_pointless.mono_l k
  unfold claplaw1_pointless.f
  repeat' first
      | (with_reducible exact ih0 _ _ _ _ _)
      | (with_reducible exact clapref1_Whole.mono _ _ _)
      | (with_reducible exact LeO.refl _)
      | (with_reducible exact LeO.none _)
      | (with_reducible refine LeO.ite ?_ ?_)
      | (with_reducible refine LeO.bind ?_ (fun _ => ?_))
      | exact ih0 _ _ _ _ _
      | exact clapref1_Whole.mono _ _ _
      | exact LeO.none _
      | refine LeO.ite ?_ ?_
      | refine LeO.bind ?_ (fun _ => ?_)
set_option maxHeartbeats 8000000 in
set_option maxRecDepth 100000 in
theorem claplaw1_pointless.calls (k : Nat) (a0 : ByteArray) (a1 : Int) (r1 : ByteArray) (r2 : Bool) (w : World) (h : claplaw1_pointless.f k a0 a1 = some (r1, r2)) :
    Calls Tryd.prog 20 #[.string a0, .int .i64 a1] w fun e w' => e = .returned (.tuple #[.string r1, .bool r2]) ∧ Below w.heap.size w w' := by
  have HB := Aside0.mk (Below.refl w.heap.size w)
  have H : (if a1 = 0 then ((clapref1_Whole.f k a0 10).bind fun t126 => (some (a0, t126))) else ((strings_TrimPrefix.f a0 (⟨#[45]⟩ : ByteArray)).bind fun t127 => ((strings_Cut.f t127 (⟨#[46]⟩ : ByteArray)).bind fun bt128 => (if bt128.2.2 = true then (if (bt128.2.1.size : Int) = a1 then ((strings_Trim.f bt128.2.1 (⟨#[48, 49, 50, 51, 52, 53, 54, 55, 56, 57]⟩ : ByteArray)).bind fun t131 => (if t131.toList = ([] : List UInt8) then ((clapref1_Whole.f k bt128.1 10).bind fun t132 => (if t132 = true then (if 0 < (bt128.1.size : Int) then (claplaw1_pointless.j0 k a0 t127 bt128.1 bt128.2.1 ((bt bt128.1 0) == 45)) else (none)) else (claplaw1_pointless.j0 k a0 t127 bt128.1 bt128.2.1 true))) else (claplaw1_pointless.j0 k a0 t127 bt128.1 bt128.2.1 true))) else (claplaw1_pointless.j0 k a0 t127 bt128.1 bt128.2.1 true)) else (claplaw1_pointless.j0 k a0 t127 bt128.1 bt128.2.1 true))))) = some (r1, r2) := h
  clear h
  by_cases c3 : a1 = 0
  · rw [if_pos c3] at H
    have c3b0 : (a1 == 0) = true := beq_iff_eq.mpr c3
    have c3b1 : (a1 != 0) = false := bne_eq_false_iff_eq.mpr c3
    clear c3
    replace H := Option.bind_eq_some_iff.mp H
    obtain ⟨t126, A40, H⟩ := H
    replace H : (some (a0, t126)) = some (r1, r2) := H
    have A4 := Aside0.mk A40
    clear A40
    simp only [Option.some.injEq, Prod.mk.injEq] at H
    obtain ⟨rfl, rfl⟩ := H
    go_enter Tryd.func20, Tryd.ntmps20
    go_wp2_with (first | ((with_reducible refine gate_callee (f := 70) rfl ?_); refine goesL_ (some 15) rfl rfl Tryd.func70 (by kernel_rfl) rfl #[.string a0, .int .i64 10] rfl (by (try simp only [List.map_toArray, List.map_cons, List.map_nil]); first | done | rfl | (simp only [List.length_drop, List.length_take]; rfl)) ?_; (with_reducible refine (clapref1_Whole.calls k a0 10 t126 _ A4.out).mono ?_); rintro e w' ⟨rfl, ⟨nd, rfl⟩⟩; refine ⟨_, rfl, ?_⟩))
    go_ret2
    exact ⟨by first | rfl | (simp [errW_none, errW_some] <;> rfl) | (simp [*, errW_none, errW_some] <;> rfl), by repeat (first | (with_reducible first | exact HB.out | apply below_alloc | apply pw_below_drewN | apply below_drew1) | exact HB.out)⟩
  · rw [if_neg c3] at H
    have c3b0 : (a1 == 0) = false := beq_eq_false_iff_ne.mpr c3
    have c3b1 : (a1 != 0) = true := bne_iff_ne.mpr c3
    replace H := Option.bind_eq_some_iff.mp H
    obtain ⟨t127, A50, H⟩ := H
    replace H : ((strings_Cut.f t127 (⟨#[46]⟩ : ByteArray)).bind fun bt128 => (if bt128.2.2 = true then (if (bt128.2.1.size : Int) = a1 then ((strings_Trim.f bt128.2.1 (⟨#[48, 49, 50, 51, 52, 53, 54, 55, 56, 57]⟩ : ByteArray)).bind fun t131 => (if t131.toList = ([] : List UInt8) then ((clapref1_Whole.f k bt128.1 10).bind fun t132 => (if t132 = true then (if 0 < (bt128.1.size : Int) then (claplaw1_pointless.j0 k a0 t127 bt128.1 bt128.2.1 ((bt bt128.1 0) == 45)) else (none)) else (claplaw1_pointless.j0 k a0 t127 bt128.1 bt128.2.1 true))) else (claplaw1_pointless.j0 k a0 t127 bt128.1 bt128.2.1 true))) else (claplaw1_pointless.j0 k a0 t127 bt128.1 bt128.2.1 true)) else (claplaw1_pointless.j0 k a0 t127 bt128.1 bt128.2.1 true))) = some (r1, r2) := H
    have A5 := Aside0.mk A50
    clear A50
    replace H := Option.bind_eq_some_iff.mp H
    obtain ⟨⟨t128, t129, t130⟩, A60, H⟩ := H
    replace H : (if t130 = true then (if (t129.size : Int) = a1 then ((strings_Trim.f t129 (⟨#[48, 49, 50, 51, 52, 53, 54, 55, 56, 57]⟩ : ByteArray)).bind fun t131 => (if t131.toList = ([] : List UInt8) then ((clapref1_Whole.f k t128 10).bind fun t132 => (if t132 = true then (if 0 < (t128.size : Int) then (claplaw1_pointless.j0 k a0 t127 t128 t129 ((bt t128 0) == 45)) else (none)) else (claplaw1_pointless.j0 k a0 t127 t128 t129 true))) else (claplaw1_pointless.j0 k a0 t127 t128 t129 true))) else (claplaw1_pointless.j0 k a0 t127 t128 t129 true)) else (claplaw1_pointless.j0 k a0 t127 t128 t129 true)) = some (r1, r2) := H
    have A6 := Aside0.mk A60
    clear A60
    have HC7 := Aside0.mk H
    clear H
    go_enter Tryd.func20, Tryd.ntmps20
    go_upto_region 5 with (first | ((with_reducible refine gate_callee (f := 23) rfl ?_); refine goesL_ (some 17) rfl rfl Tryd.func23 (by kernel_rfl) rfl #[.string a0, .string (⟨#[45]⟩ : ByteArray)] rfl (by (try simp only [List.map_toArray, List.map_cons, List.map_nil]); first | done | rfl | (simp only [List.length_drop, List.length_take]; rfl)) ?_; (with_reducible refine (strings_TrimPrefix.calls a0 (⟨#[45]⟩ : ByteArray) t127 _ A5.out).mono ?_); rintro e w' ⟨rfl, ⟨nd, rfl⟩⟩; refine ⟨_, rfl, ?_⟩) | ((with_reducible refine gate_callee (f := 24) rfl ?_); refine goesL_ (some 20) rfl rfl Tryd.func24 (by kernel_rfl) rfl #[.string t127, .string (⟨#[46]⟩ : ByteArray)] rfl (by (try simp only [List.map_toArray, List.map_cons, List.map_nil]); first | done | rfl | (simp only [List.length_drop, List.length_take]; rfl)) ?_; (with_reducible refine (strings_Cut.calls t127 (⟨#[46]⟩ : ByteArray) t128 t129 t130 _ A6.out).mono ?_); rintro e w' ⟨rfl, ⟨nd, rfl⟩⟩; refine ⟨_, rfl, ?_⟩))
    (try simp only [Act.put, List.setIfInBounds_toArray, List.set_cons_zero, List.set_cons_succ])
    go_cut [46] (fun v46 wc => ∃ (kq : Nat) (x46_6 : Bool), v46 = .bool x46_6 ∧ Aside0 (claplaw1_pointless.j0 kq a0 t127 t128 t129 x46_6 = some (r1, r2)) ∧ Aside0 (kq ≤ k) ∧ Aside0 (Below w.heap.size w wc))
    case first =>
      have H := HC7.out
      clear HC7
      by_cases c8 : t130 = true
      · subst c8
        have H1 : (if (t129.size : Int) = a1 then ((strings_Trim.f t129 (⟨#[48, 49, 50, 51, 52, 53, 54, 55, 56, 57]⟩ : ByteArray)).bind fun t131 => (if t131.toList = ([] : List UInt8) then ((clapref1_Whole.f k t128 10).bind fun t132 => (if t132 = true then (if 0 < (t128.size : Int) then (claplaw1_pointless.j0 k a0 t127 t128 t129 ((bt t128 0) == 45)) else (none)) else (claplaw1_pointless.j0 k a0 t127 t128 t129 true))) else (claplaw1_pointless.j0 k a0 t127 t128 t129 true))) else (claplaw1_pointless.j0 k a0 t127 t128 t129 true)) = some (r1, r2) := by rw [if_pos rfl] at H; exact H
        clear H
        have H := H1
        clear H1
        by_cases c9 : (t129.size : Int) = a1
        · rw [if_pos c9] at H
          have c9b0 : ((t129.size : Int) == a1) = true := beq_iff_eq.mpr c9
          have c9b1 : ((t129.size : Int) != a1) = false := bne_eq_false_iff_eq.mpr c9
          clear c9
          (first | rw [c9b0] | (simp only [i64_w, i32_w]; rw [c9b0]) | skip)
          replace H := Option.bind_eq_some_iff.mp H
          obtain ⟨t131, A100, H⟩ := H
          replace H : (if t131.toList = ([] : List UInt8) then ((clapref1_Whole.f k t128 10).bind fun t132 => (if t132 = true then (if 0 < (t128.size : Int) then (claplaw1_pointless.j0 k a0 t127 t128 t129 ((bt t128 0) == 45)) else (none)) else (claplaw1_pointless.j0 k a0 t127 t128 t129 true))) else (claplaw1_pointless.j0 k a0 t127 t128 t129 true)) = some (r1, r2) := H
          have A10 := Aside0.mk A100
          clear A100
          by_cases c11 : t131.toList = ([] : List UInt8)
          · rw [if_pos c11] at H
            have c11b0 : (t131.toList == ([] : List UInt8)) = true := beq_iff_eq.mpr c11
            have c11b1 : (t131.toList != ([] : List UInt8)) = false := bne_eq_false_iff_eq.mpr c11
            have c11b2 : t131.toList.isEmpty = true := by simpa using c11
            clear c11
            replace H := Option.bind_eq_some_iff.mp H
            obtain ⟨t132, A120, H⟩ := H
            replace H : (if t132 = true then (if 0 < (t128.size : Int) then (claplaw1_pointless.j0 k a0 t127 t128 t129 ((bt t128 0) == 45)) else (none)) else (claplaw1_pointless.j0 k a0 t127 t128 t129 true)) = some (r1, r2) := H
            have A12 := Aside0.mk A120
            clear A120
            by_cases c13 : t132 = true
            · subst c13
              have H1 : (if 0 < (t128.size : Int) then (claplaw1_pointless.j0 k a0 t127 t128 t129 ((bt t128 0) == 45)) else (none)) = some (r1, r2) := by rw [if_pos rfl] at H; exact H
              clear H
              have H := H1
              clear H1
              by_cases c14 : 0 < (t128.size : Int)
              · rw [if_pos c14] at H
                have c14b0 : decide (0 < (t128.size : Int)) = true := decide_eq_true c14
                have c14b1 : decide (0 < t128.size) = true := decide_eq_true (by omega)
                clear c14
                have H' := Aside0.mk H
                clear H
                go_wp2_with (first | (go_at_call 25; (with_reducible refine (strings_Trim.calls t129 (⟨#[48, 49, 50, 51, 52, 53, 54, 55, 56, 57]⟩ : ByteArray) t131 _ A10.out).mono ?_); rintro e w16 ⟨rfl, hb⟩; have n0_ := Aside0.mk (below_step (by repeat (first | (with_reducible first | exact HB.out | apply below_alloc | apply pw_below_drewN | apply below_drew1) | exact HB.out)) hb); clear HB; have HB := n0_; clear n0_; (try clear hb); (try clear hb2); (try clear hk); (try clear hi)) | (go_at_call 70; (with_reducible refine (clapref1_Whole.calls k t128 10 true _ A12.out).mono ?_); rintro e w' ⟨rfl, ⟨nd, rfl⟩⟩; have p15 : 0 ≤ (0 : Int) := (by omega); have q15 : 0 < t128.size := (by have : (0 : Int) < (t128.size : Int) := of_decide_eq_true (by first | (with_reducible assumption) | assumption); omega); have hx15 : ∀ h : 0 < t128.size, ((t128[0]'h).toNat : Int) = bt t128 0 := bt_at t128 0; clear p15; have qi15 : (0 < (t128.size : Int)) = True := eq_true (of_decide_eq_true (by first | (with_reducible assumption) | assumption)); replace q15 := eq_true q15))
                go_meet
                case rel => exact ⟨_, (((bt t128 0) == 45)), (by first | rfl | (simp; done) | (simp [*]; done)), H', ⟨by first | omega | exact Nat.le_refl _⟩, ⟨by repeat (first | (with_reducible first | exact HB.out | apply below_alloc | apply pw_below_drewN | apply below_drew1) | exact HB.out)⟩⟩
              · rw [if_neg c14] at H
                exact absurd H (by simp)
            · replace c13 := Bool.eq_false_iff.mpr c13
              subst c13
              have H1 : (claplaw1_pointless.j0 k a0 t127 t128 t129 true) = some (r1, r2) := by rw [if_neg (show ¬ (false = true) by decide)] at H; exact H
              clear H
              have H := H1
              clear H1
              have H' := Aside0.mk H
              clear H
              go_wp2_with (first | (go_at_call 25; (with_reducible refine (strings_Trim.calls t129 (⟨#[48, 49, 50, 51, 52, 53, 54, 55, 56, 57]⟩ : ByteArray) t131 _ A10.out).mono ?_); rintro e w17 ⟨rfl, hb⟩; have n0_ := Aside0.mk (below_step (by repeat (first | (with_reducible first | exact HB.out | apply below_alloc | apply pw_below_drewN | apply below_drew1) | exact HB.out)) hb); clear HB; have HB := n0_; clear n0_; (try clear hb); (try clear hb2); (try clear hk); (try clear hi)) | (go_at_call 70; (with_reducible refine (clapref1_Whole.calls k t128 10 false _ A12.out).mono ?_); rintro e w' ⟨rfl, ⟨nd, rfl⟩⟩))
              go_meet
              case rel => exact ⟨_, (true), (by first | rfl | (simp; done) | (simp [*]; done)), H', ⟨by first | omega | exact Nat.le_refl _⟩, ⟨by repeat (first | (with_reducible first | exact HB.out | apply below_alloc | apply pw_below_drewN | apply below_drew1) | exact HB.out)⟩⟩
          · rw [if_neg c11] at H
            have c11b0 : (t131.toList == ([] : List UInt8)) = false := beq_eq_false_iff_ne.mpr c11
            have c11b1 : (t131.toList != ([] : List UInt8)) = true := bne_iff_ne.mpr c11
            have c11b2 : t131.toList.isEmpty = false := by simpa using c11
            have H' := Aside0.mk H
            clear H
            go_wp2_with (first | (go_at_call 25; (with_reducible refine (strings_Trim.calls t129 (⟨#[48, 49, 50, 51, 52, 53, 54, 55, 56, 57]⟩ : ByteArray) t131 _ A10.out).mono ?_); rintro e w18 ⟨rfl, hb⟩; have n0_ := Aside0.mk (below_step (by repeat (first | (with_reducible first | exact HB.out | apply below_alloc | apply pw_below_drewN | apply below_drew1) | exact HB.out)) hb); clear HB; have HB := n0_; clear n0_; (try clear hb); (try clear hb2); (try clear hk); (try clear hi)))
            go_meet
            case rel => exact ⟨_, (true), (by first | rfl | (simp; done) | (simp [*]; done)), H', ⟨by first | omega | exact Nat.le_refl _⟩, ⟨by repeat (first | (with_reducible first | exact HB.out | apply below_alloc | apply pw_below_drewN | apply below_drew1) | exact HB.out)⟩⟩
        · rw [if_neg c9] at H
          have c9b0 : ((t129.size : Int) == a1) = false := beq_eq_false_iff_ne.mpr c9
          have c9b1 : ((t129.size : Int) != a1) = true := bne_iff_ne.mpr c9
          (first | rw [c9b0] | (simp only [i64_w, i32_w]; rw [c9b0]) | skip)
          have H' := Aside0.mk H
          clear H
          go_wp2
          go_meet
          case rel => exact ⟨_, (true), (by first | rfl | (simp; done) | (simp [*]; done)), H', ⟨by first | omega | exact Nat.le_refl _⟩, ⟨by repeat (first | (with_reducible first | exact HB.out | apply below_alloc | apply pw_below_drewN | apply below_drew1) | exact HB.out)⟩⟩
      · replace c8 := Bool.eq_false_iff.mpr c8
        subst c8
        have H1 : (claplaw1_pointless.j0 k a0 t127 t128 t129 true) = some (r1, r2) := by rw [if_neg (show ¬ (false = true) by decide)] at H; exact H
        clear H
        have H := H1
        clear H1
        have H' := Aside0.mk H
        clear H
        go_wp2
        go_meet
        case rel => exact ⟨_, (true), (by first | rfl | (simp; done) | (simp [*]; done)), H', ⟨by first | omega | exact Nat.le_refl _⟩, ⟨by repeat (first | (with_reducible first | exact HB.out | apply below_alloc | apply pw_below_drewN | apply below_drew1) | exact HB.out)⟩⟩
    case rest =>
      clear HC7
      try clear c1
      try clear p1
      try clear q1
      try clear hx1
      try clear qi1
      try clear c2
      try clear p2
      try clear c3
      try clear c3b0
      try clear c3b1
      try clear c7
      try clear c8
      try clear c9
      try clear c9b0
      try clear c9b1
      try clear c11
      try clear c11b0
      try clear c11b1
      try clear c11b2
      try clear c13
      try clear c14
      try clear c14b0
      try clear c14b1
      try clear p15
      try clear q15
      try clear hx15
      try clear qi15
      try clear p15
      try clear q15
      obtain ⟨kq, x46_6, rfl, HA, HJ6, HB⟩ := hcut
      cases kq with
      | zero => exact absurd HA.out (by simp [claplaw1_pointless.j0])
      | succ kj6 =>
        have H := HA.out
        clear HA
        simp only [claplaw1_pointless.j0] at H
        by_cases c19 : x46_6 = true
        · subst c19
          have H1 : (some ((⟨#[]⟩ : ByteArray), false)) = some (r1, r2) := by rw [if_pos rfl] at H; exact H
          clear H
          have H := H1
          clear H1
          simp only [Option.some.injEq, Prod.mk.injEq] at H
          obtain ⟨rfl, rfl⟩ := H
          go_wp2
          go_ret2
          exact ⟨by first | rfl | (simp [errW_none, errW_some] <;> rfl) | (simp [*, errW_none, errW_some] <;> rfl), by repeat (first | (with_reducible first | exact HB.out | apply below_alloc | apply pw_below_drewN | apply below_drew1) | exact HB.out)⟩
        · replace c19 := Bool.eq_false_iff.mpr c19
          subst c19
          have H1 : (if t128.size + t129.size ≤ 9223372036854775807 then ((strings_TrimLeft.f (t128 ++ t129) (⟨#[48]⟩ : ByteArray)).bind fun t133 => (if t133.toList = ([] : List UInt8) then (if t127.toList = a0.toList then (some ((⟨#[48]⟩ : ByteArray), (([48] : List UInt8) != ([45, 48] : List UInt8)))) else (if 1 + 1 ≤ 9223372036854775807 then (some ((⟨#[45]⟩ : ByteArray) ++ (⟨#[48]⟩ : ByteArray), (((⟨#[45]⟩ : ByteArray) ++ (⟨#[48]⟩ : ByteArray)).toList != ([45, 48] : List UInt8)))) else (none))) else (if t127.toList = a0.toList then (some (t133, (t133.toList != ([45, 48] : List UInt8)))) else (if 1 + t133.size ≤ 9223372036854775807 then (some ((⟨#[45]⟩ : ByteArray) ++ t133, (((⟨#[45]⟩ : ByteArray) ++ t133).toList != ([45, 48] : List UInt8)))) else (none))))) else (none)) = some (r1, r2) := by rw [if_neg (show ¬ (false = true) by decide)] at H; exact H
          clear H
          have H := H1
          clear H1
          by_cases c20 : t128.size + t129.size ≤ 9223372036854775807
          · rw [if_pos c20] at H
            have c20b0 := eq_true c20
            have c20b1 : decide (t128.size + t129.size ≤ 9223372036854775807) = true := decide_eq_true c20
            try have c20b2 : (9223372036854775807 < t128.size + t129.size) = False := eq_false (Nat.not_lt.2 c20)
            replace H := Option.bind_eq_some_iff.mp H
            obtain ⟨t133, A210, H⟩ := H
            replace H : (if t133.toList = ([] : List UInt8) then (if t127.toList = a0.toList then (some ((⟨#[48]⟩ : ByteArray), (([48] : List UInt8) != ([45, 48] : List UInt8)))) else (if 1 + 1 ≤ 9223372036854775807 then (some ((⟨#[45]⟩ : ByteArray) ++ (⟨#[48]⟩ : ByteArray), (((⟨#[45]⟩ : ByteArray) ++ (⟨#[48]⟩ : ByteArray)).toList != ([45, 48] : List UInt8)))) else (none))) else (if t127.toList = a0.toList then (some (t133, (t133.toList != ([45, 48] : List UInt8)))) else (if 1 + t133.size ≤ 9223372036854775807 then (some ((⟨#[45]⟩ : ByteArray) ++ t133, (((⟨#[45]⟩ : ByteArray) ++ t133).toList != ([45, 48] : List UInt8)))) else (none)))) = some (r1, r2) := H
            have A21 := Aside0.mk A210
            clear A210
            by_cases c22 : t133.toList = ([] : List UInt8)
            · rw [if_pos c22] at H
              have c22b0 : (t133.toList == ([] : List UInt8)) = true := beq_iff_eq.mpr c22
              have c22b1 : (t133.toList != ([] : List UInt8)) = false := bne_eq_false_iff_eq.mpr c22
              have c22b2 : t133.toList.isEmpty = true := by simpa using c22
              clear c22
              by_cases c23 : t127.toList = a0.toList
              · rw [if_pos c23] at H
                have c23b0 : (t127.toList == a0.toList) = true := beq_iff_eq.mpr c23
                have c23b1 : (t127.toList != a0.toList) = false := bne_eq_false_iff_eq.mpr c23
                clear c23
                simp only [Option.some.injEq, Prod.mk.injEq] at H
                obtain ⟨rfl, rfl⟩ := H
                go_wp2_with (first | ((with_reducible refine gate_callee (f := 67) rfl ?_); refine goesL_ (some 50) rfl rfl Tryd.func67 (by kernel_rfl) rfl #[.string (t128 ++ t129), .string (⟨#[48]⟩ : ByteArray)] rfl (by (try simp only [List.map_toArray, List.map_cons, List.map_nil]); first | done | rfl | (simp only [List.length_drop, List.length_take]; rfl)) ?_; (with_reducible refine (strings_TrimLeft.calls (t128 ++ t129) (⟨#[48]⟩ : ByteArray) t133 _ A21.out).mono ?_); rintro e w24 ⟨rfl, hb⟩; refine ⟨_, rfl, ?_⟩; have n0_ := Aside0.mk (below_step (by repeat (first | (with_reducible first | exact HB.out | apply below_alloc | apply pw_below_drewN | apply below_drew1) | exact HB.out)) hb); clear HB; have HB := n0_; clear n0_; (try clear hb); (try clear hb2); (try clear hk); (try clear hi)))
                go_ret2
                exact ⟨by first | rfl | (simp [errW_none, errW_some] <;> rfl) | (simp [*, errW_none, errW_some] <;> rfl), by repeat (first | (with_reducible first | exact HB.out | apply below_alloc | apply pw_below_drewN | apply below_drew1) | exact HB.out)⟩
              · rw [if_neg c23] at H
                have c23b0 : (t127.toList == a0.toList) = false := beq_eq_false_iff_ne.mpr c23
                have c23b1 : (t127.toList != a0.toList) = true := bne_iff_ne.mpr c23
                by_cases c25 : 1 + 1 ≤ 9223372036854775807
                · rw [if_pos c25] at H
                  have c25b0 := eq_true c25
                  have c25b1 : decide (1 + 1 ≤ 9223372036854775807) = true := decide_eq_true c25
                  try have c25b2 : (9223372036854775807 < 1 + 1) = False := eq_false (Nat.not_lt.2 c25)
                  simp only [Option.some.injEq, Prod.mk.injEq] at H
                  obtain ⟨rfl, rfl⟩ := H
                  go_wp2_with (first | ((with_reducible refine gate_callee (f := 67) rfl ?_); refine goesL_ (some 50) rfl rfl Tryd.func67 (by kernel_rfl) rfl #[.string (t128 ++ t129), .string (⟨#[48]⟩ : ByteArray)] rfl (by (try simp only [List.map_toArray, List.map_cons, List.map_nil]); first | done | rfl | (simp only [List.length_drop, List.length_take]; rfl)) ?_; (with_reducible refine (strings_TrimLeft.calls (t128 ++ t129) (⟨#[48]⟩ : ByteArray) t133 _ A21.out).mono ?_); rintro e w26 ⟨rfl, hb⟩; refine ⟨_, rfl, ?_⟩; have n0_ := Aside0.mk (below_step (by repeat (first | (with_reducible first | exact HB.out | apply below_alloc | apply pw_below_drewN | apply below_drew1) | exact HB.out)) hb); clear HB; have HB := n0_; clear n0_; (try clear hb); (try clear hb2); (try clear hk); (try clear hi)))
                  go_ret2
                  exact ⟨by first | rfl | (simp [errW_none, errW_some] <;> rfl) | (simp [*, errW_none, errW_some] <;> rfl), by repeat (first | (with_reducible first | exact HB.out | apply below_alloc | apply pw_below_drewN | apply below_drew1) | exact HB.out)⟩
                · rw [if_neg c25] at H
                  exact absurd H (by simp)
            · rw [if_neg c22] at H
              have c22b0 : (t133.toList == ([] : List UInt8)) = false := beq_eq_false_iff_ne.mpr c22
              have c22b1 : (t133.toList != ([] : List UInt8)) = true := bne_iff_ne.mpr c22
              have c22b2 : t133.toList.isEmpty = false := by simpa using c22
              by_cases c27 : t127.toList = a0.toList
              · rw [if_pos c27] at H
                have c27b0 : (t127.toList == a0.toList) = true := beq_iff_eq.mpr c27
                have c27b1 : (t127.toList != a0.toList) = false := bne_eq_false_iff_eq.mpr c27
                clear c27
                simp only [Option.some.injEq, Prod.mk.injEq] at H
                obtain ⟨rfl, rfl⟩ := H
                go_wp2_with (first | ((with_reducible refine gate_callee (f := 67) rfl ?_); refine goesL_ (some 50) rfl rfl Tryd.func67 (by kernel_rfl) rfl #[.string (t128 ++ t129), .string (⟨#[48]⟩ : ByteArray)] rfl (by (try simp only [List.map_toArray, List.map_cons, List.map_nil]); first | done | rfl | (simp only [List.length_drop, List.length_take]; rfl)) ?_; (with_reducible refine (strings_TrimLeft.calls (t128 ++ t129) (⟨#[48]⟩ : ByteArray) t133 _ A21.out).mono ?_); rintro e w28 ⟨rfl, hb⟩; refine ⟨_, rfl, ?_⟩; have n0_ := Aside0.mk (below_step (by repeat (first | (with_reducible first | exact HB.out | apply below_alloc | apply pw_below_drewN | apply below_drew1) | exact HB.out)) hb); clear HB; have HB := n0_; clear n0_; (try clear hb); (try clear hb2); (try clear hk); (try clear hi)))
                go_ret2
                exact ⟨by first | rfl | (simp [errW_none, errW_some] <;> rfl) | (simp [*, errW_none, errW_some] <;> rfl), by repeat (first | (with_reducible first | exact HB.out | apply below_alloc | apply pw_below_drewN | apply below_drew1) | exact HB.out)⟩
              · rw [if_neg c27] at H
                have c27b0 : (t127.toList == a0.toList) = false := beq_eq_false_iff_ne.mpr c27
                have c27b1 : (t127.toList != a0.toList) = true := bne_iff_ne.mpr c27
                by_cases c29 : 1 + t133.size ≤ 9223372036854775807
                · rw [if_pos c29] at H
                  have c29b0 := eq_true c29
                  have c29b1 : decide (1 + t133.size ≤ 9223372036854775807) = true := decide_eq_true c29
                  try have c29b2 : (9223372036854775807 < 1 + t133.size) = False := eq_false (Nat.not_lt.2 c29)
                  simp only [Option.some.injEq, Prod.mk.injEq] at H
                  obtain ⟨rfl, rfl⟩ := H
                  go_wp2_with (first | ((with_reducible refine gate_callee (f := 67) rfl ?_); refine goesL_ (some 50) rfl rfl Tryd.func67 (by kernel_rfl) rfl #[.string (t128 ++ t129), .string (⟨#[48]⟩ : ByteArray)] rfl (by (try simp only [List.map_toArray, List.map_cons, List.map_nil]); first | done | rfl | (simp only [List.length_drop, List.length_take]; rfl)) ?_; (with_reducible refine (strings_TrimLeft.calls (t128 ++ t129) (⟨#[48]⟩ : ByteArray) t133 _ A21.out).mono ?_); rintro e w30 ⟨rfl, hb⟩; refine ⟨_, rfl, ?_⟩; have n0_ := Aside0.mk (below_step (by repeat (first | (with_reducible first | exact HB.out | apply below_alloc | apply pw_below_drewN | apply below_drew1) | exact HB.out)) hb); clear HB; have HB := n0_; clear n0_; (try clear hb); (try clear hb2); (try clear hk); (try clear hi)))
                  go_ret2
                  exact ⟨by first | rfl | (simp [errW_none, errW_some] <;> rfl) | (simp [*, errW_none, errW_some] <;> rfl), by repeat (first | (with_reducible first | exact HB.out | apply below_alloc | apply pw_below_drewN | apply below_drew1) | exact HB.out)⟩
                · rw [if_neg c29] at H
                  exact absurd H (by simp)
          · rw [if_neg c20] at H
            exact absurd H (by simp)

/-! ### clapref1_Amount: function 21 -/
def clapref1_Amount.l0 : Nat → ByteArray → Int → Int → Int → Int → Option (Int × Bool)
  | 0, _, _, _, _, _ => none
  | k + 1, x0, x1, x6, x9, x10 => if x10 < x9 then (if 0 ≤ x10 then (if x10 < (x0.size : Int) then (if (bt x0 x10) = 45 then (clapref1_Amount.l0 k x0 x1 x6 x9 (wrap64 (x10 + 1))) else ((strings_IndexByte.f (⟨#[48, 49, 50, 51, 52, 53, 54, 55, 56, 57, 97, 98, 99, 100, 101, 102, 103, 104, 105, 106, 107, 108, 109, 110, 111, 112, 113, 114, 115, 116, 117, 118, 119, 120, 121, 122]⟩ : ByteArray) (bt x0 x10)).bind fun t134 => (if (wrap64 ((wrap64 (x6 * x1)) + t134)) > 9007199254740992 then (some (0, false)) else (clapref1_Amount.l0 k x0 x1 (wrap64 ((wrap64 (x6 * x1)) + t134)) x9 (wrap64 (x10 + 1)))))) else (none)) else (none)) else (if 0 < (x0.size : Int) then (if (bt x0 0) = 45 then (some (wrap64 (-x6), true)) else (some (x6, true))) else (none))
def clapref1_Amount.f (k : Nat) (a0 : ByteArray) (a1 : Int) : Option (Int × Bool) := clapref1_Amount.l0 k a0 a1 0 (a0.size : Int) 0
theorem clapref1_Amount.mono_l : ∀ k, (∀ y0 y1 y2 y3 y4, LeO (clapref1_Amount.l0 k y0 y1 y2 y3 y4) (clapref1_Amount.l0 (k + 1) y0 y1 y2 y3 y4))
  | 0 => fun _ _ _ _ _ r h => by simp [clapref1_Amount.l0] at h
  | k + 1 => by
    have ih0 := clapref1_Amount.mono_l k
    · intro y0 y1 y2 y3 y4
      unfold clapref1_Amount.l0
      repeat' first
      | (with_reducible exact ih0 _ _ _ _ _)
      | (with_reducible exact LeO.refl _)
      | (with_reducible exact LeO.none _)
      | (with_reducible refine LeO.ite ?_ ?_)
      | (with_reducible refine LeO.bind ?_ (fun _ => ?_))
      | exact ih0 _ _ _ _ _
      | exact LeO.none _
      | refine LeO.ite ?_ ?_
      | refine LeO.bind ?_ (fun _ => ?_)
theorem clapref1_Amount.mono : ∀ a0 a1 k, LeO (clapref1_Amount.f k a0 a1) (clapref1_Amount.f (k + 1) a0 a1) := by
  intro a0 a1 k
  have ih0 := clapref1_Amount.mono_l k
  unfold clapref1_Amount.f
  repeat' first
      | (with_reducible exact ih0 _ _ _ _ _)
      | (with_reducible exact LeO.refl _)
      | (with_reducible exact LeO.none _)
      | (with_reducible refine LeO.ite ?_ ?_)
      | (with_reducible refine LeO.bind ?_ (fun _ => ?_))
      | exact ih0 _ _ _ _ _
      | exact LeO.none _
      | refine LeO.ite ?_ ?_
      | refine LeO.bind ?_ (fun _ => ?_)
set_option maxHeartbeats 8000000 in
set_option maxRecDepth 100000 in
theorem clapref1_Amount.calls (k : Nat) (a0 : ByteArray) (a1 : Int) (r1 : Int) (r2 : Bool) (w : World) (h : clapref1_Amount.f k a0 a1 = some (r1, r2)) :
    Calls Tryd.prog 21 #[.string a0, .int .i64 a1] w fun e w' => e = .returned (.tuple #[.int .i64 r1, .bool r2]) ∧ Drawn0 w w' := by
  have H : (clapref1_Amount.l0 k a0 a1 0 (a0.size : Int) 0) = some (r1, r2) := h
  clear h
  have H' := Aside0.mk H
  clear H
  go_enter Tryd.func21, Tryd.ntmps21
  go_wp2
  go_loopg [6, 10] k (fun kq v6 v10 w' => ∃ (x6_1 : Int) (x10_1 : Int), v6 = .int .i64 x6_1 ∧ v10 = .int .i64 x10_1 ∧ Aside0 (clapref1_Amount.l0 kq a0 a1 x6_1 (a0.size : Int) x10_1 = some (r1, r2)) ∧ Aside0 (kq ≤ k) ∧ Drawn0 w w')
  case atStart => exact ⟨(0), (0), (by first | rfl | (simp; done) | (simp [*]; done)), (by first | rfl | (simp; done) | (simp [*]; done)), H', ⟨Nat.le_refl _⟩, by repeat (first | exact Drawn0.refl _ | apply Drawn0.step)⟩
  case round =>
    clear H'
    try clear c2
    try clear p2
    obtain ⟨x6_1, x10_1, rfl, rfl, HA, HK1, ⟨m1, rfl⟩⟩ := hrel
    cases gk with
    | zero => exact absurd HA.out (by simp [clapref1_Amount.l0])
    | succ k1 =>
      have H := HA.out
      clear HA
      simp only [clapref1_Amount.l0] at H
      by_cases c3 : x10_1 < (a0.size : Int)
      · rw [if_pos c3] at H
        have c3b0 : decide (x10_1 < (a0.size : Int)) = true := decide_eq_true c3
        clear c3
        by_cases c4 : 0 ≤ x10_1
        · rw [if_pos c4] at H
          have c4b0 : decide (0 ≤ x10_1) = true := decide_eq_true c4
          clear c4
          by_cases c5 : x10_1 < (a0.size : Int)
          · rw [if_pos c5] at H
            have c5b0 : decide (x10_1 < (a0.size : Int)) = true := decide_eq_true c5
            clear c5
            by_cases c7 : (bt a0 x10_1) = 45
            · rw [if_pos c7] at H
              have c7b0 : ((bt a0 x10_1) == 45) = true := beq_iff_eq.mpr c7
              have c7b1 : ((bt a0 x10_1) != 45) = false := bne_eq_false_iff_eq.mpr c7
              clear c7
              have H' := Aside0.mk H
              clear H
              have p6 : 0 ≤ (x10_1 : Int) := of_decide_eq_true (by first | (with_reducible assumption) | assumption)
              have q6 : x10_1 < (a0.size : Int) := of_decide_eq_true (by first | (with_reducible assumption) | assumption)
              have hx6 := bt_at a0 x10_1
              replace p6 := eq_true p6
              replace q6 := eq_true q6
              go_wp2
              go_roundg k1
              case measure => have := HK1.out; omega
              case rel => exact ⟨(x6_1), (wrap64 (x10_1 + 1)), (by first | rfl | (simp; done) | (simp [*]; done)), (by first | rfl | (simp; done) | (simp [*]; done)), H', ⟨by have := HK1.out; omega⟩, by repeat (first | exact Drawn0.refl _ | apply Drawn0.step)⟩
            · rw [if_neg c7] at H
              have c7b0 : ((bt a0 x10_1) == 45) = false := beq_eq_false_iff_ne.mpr c7
              have c7b1 : ((bt a0 x10_1) != 45) = true := bne_iff_ne.mpr c7
              replace H := Option.bind_eq_some_iff.mp H
              obtain ⟨t134, A90, H⟩ := H
              replace H : (if (wrap64 ((wrap64 (x6_1 * a1)) + t134)) > 9007199254740992 then (some (0, false)) else (clapref1_Amount.l0 k1 a0 a1 (wrap64 ((wrap64 (x6_1 * a1)) + t134)) (a0.size : Int) (wrap64 (x10_1 + 1)))) = some (r1, r2) := H
              have A9 := Aside0.mk A90
              clear A90
              by_cases c10 : (wrap64 ((wrap64 (x6_1 * a1)) + t134)) > 9007199254740992
              · rw [if_pos c10] at H
                have c10b0 : decide (9007199254740992 < (wrap64 ((wrap64 (x6_1 * a1)) + t134))) = true := decide_eq_true c10
                clear c10
                simp only [Option.some.injEq, Prod.mk.injEq] at H
                obtain ⟨rfl, rfl⟩ := H
                have p6 : 0 ≤ (x10_1 : Int) := of_decide_eq_true (by first | (with_reducible assumption) | assumption)
                have q6 : x10_1 < (a0.size : Int) := of_decide_eq_true (by first | (with_reducible assumption) | assumption)
                have hx6 := bt_at a0 x10_1
                replace p6 := eq_true p6
                replace q6 := eq_true q6
                have p8 : 0 ≤ (x10_1 : Int) := of_decide_eq_true (by first | (with_reducible assumption) | assumption)
                have q8 : x10_1 < (a0.size : Int) := of_decide_eq_true (by first | (with_reducible assumption) | assumption)
                have hx8 := bt_at a0 x10_1
                replace p8 := eq_true p8
                replace q8 := eq_true q8
                go_wp2_with (first | ((with_reducible refine gate_callee (f := 27) rfl ?_); refine goesL_ (some 23) rfl rfl Tryd.func27 (by kernel_rfl) rfl #[.string (⟨#[48, 49, 50, 51, 52, 53, 54, 55, 56, 57, 97, 98, 99, 100, 101, 102, 103, 104, 105, 106, 107, 108, 109, 110, 111, 112, 113, 114, 115, 116, 117, 118, 119, 120, 121, 122]⟩ : ByteArray), .int .u8 (bt a0 x10_1)] rfl (by (try simp only [List.map_toArray, List.map_cons, List.map_nil]); first | done | rfl | (simp only [List.length_drop, List.length_take]; rfl)) ?_; (with_reducible refine (strings_IndexByte.calls (⟨#[48, 49, 50, 51, 52, 53, 54, 55, 56, 57, 97, 98, 99, 100, 101, 102, 103, 104, 105, 106, 107, 108, 109, 110, 111, 112, 113, 114, 115, 116, 117, 118, 119, 120, 121, 122]⟩ : ByteArray) (bt a0 x10_1) t134 _ A9.out).mono ?_); rintro e w' ⟨rfl, ⟨nd, rfl⟩⟩; refine ⟨_, rfl, ?_⟩))
                go_ret2
                exact ⟨by first | rfl | (simp; done) | (simp [*]; done), by repeat (first | exact Drawn0.refl _ | apply Drawn0.step)⟩
              · rw [if_neg c10] at H
                have c10b0 : decide (9007199254740992 < (wrap64 ((wrap64 (x6_1 * a1)) + t134))) = false := decide_eq_false c10
                clear c10
                have H' := Aside0.mk H
                clear H
                have p6 : 0 ≤ (x10_1 : Int) := of_decide_eq_true (by first | (with_reducible assumption) | assumption)
                have q6 : x10_1 < (a0.size : Int) := of_decide_eq_true (by first | (with_reducible assumption) | assumption)
                have hx6 := bt_at a0 x10_1
                replace p6 := eq_true p6
                replace q6 := eq_true q6
                have p8 : 0 ≤ (x10_1 : Int) := of_decide_eq_true (by first | (with_reducible assumption) | assumption)
                have q8 : x10_1 < (a0.size : Int) := of_decide_eq_true (by first | (with_reducible assumption) | assumption)
                have hx8 := bt_at a0 x10_1
                replace p8 := eq_true p8
                replace q8 := eq_true q8
                go_wp2_with (first | ((with_reducible refine gate_callee (f := 27) rfl ?_); refine goesL_ (some 23) rfl rfl Tryd.func27 (by kernel_rfl) rfl #[.string (⟨#[48, 49, 50, 51, 52, 53, 54, 55, 56, 57, 97, 98, 99, 100, 101, 102, 103, 104, 105, 106, 107, 108, 109, 110, 111, 112, 113, 114, 115, 116, 117, 118, 119, 120, 121, 122]⟩ : ByteArray), .int .u8 (bt a0 x10_1)] rfl (by (try simp only [List.map_toArray, List.map_cons, List.map_nil]); first | done | rfl | (simp only [List.length_drop, List.length_take]; rfl)) ?_; (with_reducible refine (strings_IndexByte.calls (⟨#[48, 49, 50, 51, 52, 53, 54, 55, 56, 57, 97, 98, 99, 100, 101, 102, 103, 104, 105, 106, 107, 108, 109, 110, 111, 112, 113, 114, 115, 116, 117, 118, 119, 120, 121, 122]⟩ : ByteArray) (bt a0 x10_1) t134 _ A9.out).mono ?_); rintro e w' ⟨rfl, ⟨nd, rfl⟩⟩; refine ⟨_, rfl, ?_⟩))
                go_roundg k1
                case measure => have := HK1.out; omega
                case rel => exact ⟨(wrap64 ((wrap64 (x6_1 * a1)) + t134)), (wrap64 (x10_1 + 1)), (by first | rfl | (simp; done) | (simp [*]; done)), (by first | rfl | (simp; done) | (simp [*]; done)), H', ⟨by have := HK1.out; omega⟩, by repeat (first | exact Drawn0.refl _ | apply Drawn0.step)⟩
          · rw [if_neg c5] at H
            exact absurd H (by simp)
        · rw [if_neg c4] at H
          exact absurd H (by simp)
      · rw [if_neg c3] at H
        have c3b0 : decide (x10_1 < (a0.size : Int)) = false := decide_eq_false c3
        clear c3
        by_cases c11 : 0 < (a0.size : Int)
        · rw [if_pos c11] at H
          have c11b0 : decide (0 < (a0.size : Int)) = true := decide_eq_true c11
          have c11b1 : decide (0 < a0.size) = true := decide_eq_true (by omega)
          clear c11
          by_cases c13 : (bt a0 0) = 45
          · rw [if_pos c13] at H
            have c13b0 : ((bt a0 0) == 45) = true := beq_iff_eq.mpr c13
            have c13b1 : ((bt a0 0) != 45) = false := bne_eq_false_iff_eq.mpr c13
            clear c13
            simp only [Option.some.injEq, Prod.mk.injEq] at H
            obtain ⟨rfl, rfl⟩ := H
            have p12 : 0 ≤ (0 : Int) := (by omega)
            have q12 : 0 < a0.size := (by have : (0 : Int) < (a0.size : Int) := of_decide_eq_true (by first | (with_reducible assumption) | assumption); omega)
            have hx12 : ∀ h : 0 < a0.size, ((a0[0]'h).toNat : Int) = bt a0 0 := bt_at a0 0
            clear p12
            have qi12 : (0 < (a0.size : Int)) = True := eq_true (of_decide_eq_true (by first | (with_reducible assumption) | assumption))
            replace q12 := eq_true q12
            go_wp2
            go_ret2
            exact ⟨by first | rfl | (simp; done) | (simp [*]; done), by repeat (first | exact Drawn0.refl _ | apply Drawn0.step)⟩
          · rw [if_neg c13] at H
            have c13b0 : ((bt a0 0) == 45) = false := beq_eq_false_iff_ne.mpr c13
            have c13b1 : ((bt a0 0) != 45) = true := bne_iff_ne.mpr c13
            simp only [Option.some.injEq, Prod.mk.injEq] at H
            obtain ⟨rfl, rfl⟩ := H
            have p12 : 0 ≤ (0 : Int) := (by omega)
            have q12 : 0 < a0.size := (by have : (0 : Int) < (a0.size : Int) := of_decide_eq_true (by first | (with_reducible assumption) | assumption); omega)
            have hx12 : ∀ h : 0 < a0.size, ((a0[0]'h).toNat : Int) = bt a0 0 := bt_at a0 0
            clear p12
            have qi12 : (0 < (a0.size : Int)) = True := eq_true (of_decide_eq_true (by first | (with_reducible assumption) | assumption))
            replace q12 := eq_true q12
            go_wp2
            go_ret2
            exact ⟨by first | rfl | (simp; done) | (simp [*]; done), by repeat (first | exact Drawn0.refl _ | apply Drawn0.step)⟩
        · rw [if_neg c11] at H
          exact absurd H (by simp)

end Go.Proofs.YtnjjilnfpdepoaaDoor.PDecimalPoints
