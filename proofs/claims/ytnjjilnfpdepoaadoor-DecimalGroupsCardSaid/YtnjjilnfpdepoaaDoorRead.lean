/-
  The walk of decimal.Read: the number of a numeral, for every string and base; no condition.
-/
import Derived.Test.YtnjjilnfpdepoaaDoorProg
import Derived.Test.YtnjjilnfpdepoaaDoorNum
import Derived.Test.YtnjjilnfpdepoaaDoorShelf
import Derived.WalkKit
import Derived.WalkSpells
import Derived.WalkLawsBesides
import Derived.Deep.OwnRows
import Derived.Deep.LoopGhost
import Derived.Deep.DeepCutAuto
import Derived.Lib.Hide
import Derived.Lib.ConvBytes
namespace Go.Proofs.YtnjjilnfpdepoaaDoor
open Go.RowKit
set_option maxRecDepth 100000

theorem head_eq {t : ByteArray} (h : 0 < t.size) : t.data.toList.head? = some t[0] := by
  obtain ⟨⟨l⟩⟩ := t
  cases l with
  | nil => simp [ByteArray.size] at h
  | cons c l => rfl

theorem bad_iff (t : ByteArray) (neg : Bool) : Num.bad t.data.toList neg = true ↔ (t.toList = [] ∨ (1 < (t.size : Int) ∧ ∃ h : 0 < t.size, (t[0].toNat : Int) = 48) ∨ (neg = true ∧ t.toList = [48])) := by
  rw [ByteArray.toList_eq]
  unfold Num.bad
  have hl : t.data.toList.length = t.size := rfl
  by_cases h : 0 < t.size
  · rw [head_eq h, hl]
    have : (some t[0] == some (48 : UInt8)) = true ↔ ((t[0].toNat : Int) = 48) := by
      rw [beq_iff_eq, Option.some.injEq, ← UInt8.toNat_inj]
      show t[0].toNat = 48 ↔ _
      omega
    have h2 : (1 < (t.size : Int)) ↔ 1 < t.size := by omega
    simp only [h2, Bool.or_eq_true, Bool.and_eq_true, decide_eq_true_eq, this, beq_iff_eq, List.isEmpty_iff]
    constructor
    · rintro ((h1 | ⟨h1, h2⟩) | h1)
      · exact .inl h1
      · exact .inr (.inl ⟨h1, h, h2⟩)
      · exact .inr (.inr h1)
    · rintro (h1 | ⟨h1, _, h2⟩ | h1)
      · exact .inl (.inl h1)
      · exact .inl (.inr ⟨h1, h2⟩)
      · exact .inr h1
  · have h0 : t.data.toList = [] := List.eq_nil_of_length_eq_zero (by omega)
    simp [h0]

set_option maxRecDepth 100000 in
set_option maxHeartbeats 400000 in
theorem value_any (c : UInt8) (w : World) :
    Calls Tryd.prog 82 #[.int .u8 (c.toNat : Int)] w fun e w' => e = .returned (.int .i64 (Num.val c)) ∧ w = w' := by
  have hlt : (c.toNat : Int) < 256 := by have := c.toNat_lt; omega
  have hv := Lib.hid (Num.val.eq_1 c)
  by_cases h1 : 48 ≤ (c.toNat : Int)
  · by_cases h2 : (c.toNat : Int) ≤ 57
    · go_enter Tryd.func82, Tryd.ntmps82
      go_wp2
      go_ret
      refine ⟨?_, rfl⟩
      rw [hv.out, if_pos (by omega)]; rfl
    · by_cases h3 : 97 ≤ (c.toNat : Int)
      · by_cases h4 : (c.toNat : Int) ≤ 122
        · go_enter Tryd.func82, Tryd.ntmps82
          go_wp2
          go_ret
          refine ⟨?_, rfl⟩
          rw [hv.out, if_neg (by omega), if_pos (by omega)]
          show Ending.returned (Value.int .i64 ((c.toNat : Int) - 97 + 10)) = _
          congr 2; omega
        · go_enter Tryd.func82, Tryd.ntmps82
          go_wp2
          go_ret
          refine ⟨?_, rfl⟩
          rw [hv.out, if_neg (by omega), if_neg (by omega)]; rfl
      · go_enter Tryd.func82, Tryd.ntmps82
        go_wp2
        go_ret
        refine ⟨?_, rfl⟩
        rw [hv.out, if_neg (by omega), if_neg (by omega)]; rfl
  · go_enter Tryd.func82, Tryd.ntmps82
    go_wp2
    go_ret
    refine ⟨?_, rfl⟩
    rw [hv.out, if_neg (by omega), if_neg (by omega)]; rfl

theorem below_bytes (w : World) (t : ByteArray) : Below w.heap.size w (Lib.bytesWorld w 5 t) :=
  ⟨rfl, rfl, rfl, by rw [Lib.bytesWorld_size]; omega, fun j hj => Lib.bytesWorld_at_old w 5 t j hj⟩

theorem drop_at {l : List UInt8} {k : Nat} (h : k < l.length) : l.drop k = l.getD k 0 :: l.drop (k + 1) := by
  rw [List.drop_eq_getElem_cons h, List.getD_eq_getElem?_getD, List.getElem?_eq_getElem h]; rfl

theorem two_int {a b c d : Int} (h1 : a = c) (h2 : b = d) : Ending.returned (Value.tuple #[Value.int .i64 a, Value.int .i64 b]) = Ending.returned (Value.tuple #[Value.int .i64 c, Value.int .i64 d]) := by rw [h1, h2]

set_option maxHeartbeats 1600000 in
theorem read_walk (s t : ByteArray) (neg : Bool) (b : Nat) (w : World) (hb : 2 ≤ b) (hb' : b ≤ 36) (hs : s.size ≤ 80) (ht : t.size ≤ 80)
   (hcut : Hid (∀ w, Calls Tryd.prog 66 #[.string s, .string ⟨#[45]⟩] w fun e w' => e = .returned (.tuple #[.string t, .bool neg]) ∧ w = w')) :
    Calls Tryd.prog 65 #[.string s, .int .i64 (b : Int)] w fun e w' => e = .returned (.tuple #[.int .i64 (Num.readBody b t.data.toList neg).1, .int .i64 (Num.readBody b t.data.toList neg).2]) ∧ Below w.heap.size w w' := by
  have hcv := Lib.run_convert_string_bytes (P := Tryd.prog) w 9 47 5 t Tryd.underlying9 Tryd.underlying47 Tryd.underlying5
  have HB := Lib.hid (below_bytes w t)
  have HC : Hid (∀ j, j < t.size → (Lib.bytesWorld w 5 t).cell? ⟨w.heap.size, j, none⟩ = some (.int .u8 (t.data.toList.getD j 0).toNat)) := Lib.hid (fun j hj => Lib.bytesWorld_cell w 5 t j hj)
  have hlen : Hid (t.data.toList.length = t.size) := Lib.hid rfl
  go_enter Tryd.func65, Tryd.ntmps65
  go_upto_region 6 with (first | (go_at_call 66; refine (hcut.out _).mono ?_; rintro e w' ⟨rfl, rfl⟩))
  go_cut [7, 47] (fun v7 v47 wc => v7 = .bool neg ∧ v47 = .bool (Num.bad t.data.toList neg) ∧ w = wc)
  case first =>
    go_wp2
    all_goals go_meet
    all_goals exact ⟨by simp [*], congrArg Value.bool (by rw [Bool.eq_iff_iff, bad_iff]; first | (simp [*]; done) | (simp [*]; intro h; omega)), rfl⟩
  case rest =>
    obtain ⟨rfl, rfl, rfl⟩ := hcut
    cases hbad : Num.bad t.data.toList neg
    · have hbad' := Lib.hid hbad
      clear hbad
      go_wp2
      go_loop [8, 9, 51] (fun m g i => ∃ (n : Int) (lg : Bool) (k : Nat), m = .int .i64 n ∧ g = .bool lg ∧ i = .int .i64 k ∧ k ≤ t.size ∧ 0 ≤ n ∧ n ≤ 324259173170675747 ∧ Hid (Num.readGo b t.data.toList 0 false = Num.readGo b (t.data.toList.drop k) n lg)) (fun _ _ i => t.size - (intOf i).toNat)
      case atStart => exact ⟨0, false, 0, rfl, rfl, rfl, by omega, by omega, by omega, rfl⟩
      case round =>
        obtain ⟨n, lg, k, rfl, rfl, rfl, hk, hn0, hn1, HR⟩ := hrel
        by_cases hlt : k < t.size
        · have hc := HC.out k hlt
          have HD : Hid (t.data.toList.drop k = t.data.toList.getD k 0 :: t.data.toList.drop (k + 1)) := Lib.hid (drop_at (by rw [hlen.out]; exact hlt))
          obtain ⟨c, hcc⟩ : ∃ c, c = t.data.toList.getD k 0 := ⟨_, rfl⟩
          rw [← hcc] at hc HD
          clear hcc
          have hv := Num.val_le c
          obtain ⟨hv1, hv2⟩ := hv
          obtain ⟨d, hd⟩ : ∃ d, d = Num.val c := ⟨_, rfl⟩
          have hval : Hid (∀ w, Calls Tryd.prog 82 #[.int .u8 (c.toNat : Int)] w fun e w' => e = .returned (.int .i64 d) ∧ w = w') := Lib.hid (by rw [hd]; exact fun w => value_any c w)
          rw [← hd] at hv1 hv2
          have hd' := Lib.hid hd
          clear hd
          by_cases hd0 : d < 0
          · have hfin := Lib.hid (Num.fin_none hbad'.out (by rw [HR.out, HD.out]; exact Num.go_bad (Or.inl (by rw [← hd'.out]; exact hd0))))
            go_wp2_with (first | (go_at_call 82; refine (hval.out _).mono ?_; rintro e w' ⟨rfl, rfl⟩))
            go_ret2
            refine ⟨?_, HB.out⟩
            rw [hfin.out]; rfl
          · by_cases hd1 : (b : Int) ≤ d
            · have hfin := Lib.hid (Num.fin_none hbad'.out (by rw [HR.out, HD.out]; exact Num.go_bad (Or.inr (by rw [← hd'.out]; exact hd1))))
              go_wp2_with (first | (go_at_call 82; refine (hval.out _).mono ?_; rintro e w' ⟨rfl, rfl⟩))
              go_ret2
              refine ⟨?_, HB.out⟩
              rw [hfin.out]; rfl
            · have hok : ¬ (Num.val c < 0 ∨ (b : Int) ≤ Num.val c) := by rw [← hd'.out]; omega
              have hok := Lib.hid hok
              by_cases hg : 9007199254740992 < n
              · have HN : Hid (Num.readGo b t.data.toList 0 false = Num.readGo b (t.data.toList.drop (k + 1)) n true) := Lib.hid (by rw [HR.out, HD.out]; exact Num.go_large hok.out (Or.inr hg))
                have hgb : decide (9007199254740992 < n) = true := decide_eq_true hg
                cases lg
                · go_wp2_with (first | (go_at_call 82; refine (hval.out _).mono ?_; rintro e w' ⟨rfl, rfl⟩))
                  go_round
                  case rel => exact ⟨n, true, k + 1, rfl, rfl, by go_num, by omega, hn0, hn1, HN⟩
                  case measure => simp [intOf]; omega
                · go_wp2_with (first | (go_at_call 82; refine (hval.out _).mono ?_; rintro e w' ⟨rfl, rfl⟩))
                  go_round
                  case rel => exact ⟨n, true, k + 1, rfl, rfl, by go_num, by omega, hn0, hn1, HN⟩
                  case measure => simp [intOf]; omega
              · cases lg
                · have HN : Hid (Num.readGo b t.data.toList 0 false = Num.readGo b (t.data.toList.drop (k + 1)) (n * b + d) false) := Lib.hid (by rw [HR.out, HD.out, hd'.out]; exact Num.go_on hok.out (by omega))
                  have hgb : decide (9007199254740992 < n) = false := decide_eq_false hg
                  have hm0 : 0 ≤ n * (b : Int) := Int.mul_nonneg hn0 (by omega)
                  have hm1 : n * (b : Int) ≤ 324259173170675712 := by
                    have h1 : n * (b : Int) ≤ 9007199254740992 * (b : Int) := Int.mul_le_mul_of_nonneg_right (by omega) (by omega)
                    omega
                  go_wp2_with (first | (go_at_call 82; refine (hval.out _).mono ?_; rintro e w' ⟨rfl, rfl⟩))
                  go_round
                  case rel => exact ⟨n * b + d, false, k + 1, rfl, rfl, by go_num, by omega, by omega, by omega, HN⟩
                  case measure => simp [intOf]; omega
                · have HN : Hid (Num.readGo b t.data.toList 0 false = Num.readGo b (t.data.toList.drop (k + 1)) n true) := Lib.hid (by rw [HR.out, HD.out]; exact Num.go_large hok.out (Or.inl rfl))
                  go_wp2_with (first | (go_at_call 82; refine (hval.out _).mono ?_; rintro e w' ⟨rfl, rfl⟩))
                  go_round
                  case rel => exact ⟨n, true, k + 1, rfl, rfl, by go_num, by omega, hn0, hn1, HN⟩
                  case measure => simp [intOf]; omega
        · have HK : Hid (Num.readGo b t.data.toList 0 false = some (n, lg)) := Lib.hid (by rw [HR.out, List.drop_eq_nil_of_le (by rw [hlen.out]; omega), Num.readGo.eq_1])
          cases lg
          · by_cases hg : 9007199254740992 < n
            · have hfin := Lib.hid (Num.fin_large hbad'.out HK.out (Or.inr hg))
              go_wp2
              go_ret2
              refine ⟨?_, HB.out⟩
              rw [hfin.out]; rfl
            · have hfin := Lib.hid (Num.fin_ok hbad'.out HK.out (by omega))
              cases neg
              · go_wp2
                go_ret2
                refine ⟨?_, HB.out⟩
                rw [hfin.out]; rfl
              · go_wp2
                go_ret2
                refine ⟨?_, HB.out⟩
                rw [hfin.out]; rfl
          · have hfin := Lib.hid (Num.fin_large hbad'.out HK.out (Or.inl rfl))
            go_wp2
            go_ret2
            refine ⟨?_, HB.out⟩
            rw [hfin.out]; rfl
    · have hfin := Lib.hid (Num.fin_bad (b := b) hbad)
      clear hbad
      go_wp2
      go_ret2
      refine ⟨?_, Below.refl _ _⟩
      rw [hfin.out]; rfl


set_option maxHeartbeats 400000 in
theorem read_arg (s : ByteArray) (b : Int) (w : World) (hb : b < 2 ∨ 36 < b) :
    Calls Tryd.prog 65 #[.string s, .int .i64 b] w fun e w' => e = .returned (.tuple #[.int .i64 0, .int .i64 1]) ∧ Below w.heap.size w w' := by
  by_cases h : b < 2
  · go_enter Tryd.func65, Tryd.ntmps65
    go_wp2
    go_ret2
    exact ⟨rfl, Below.refl _ _⟩
  · have h2 : 36 < b := by omega
    go_enter Tryd.func65, Tryd.ntmps65
    go_wp2
    go_ret2
    exact ⟨rfl, Below.refl _ _⟩

set_option maxHeartbeats 400000 in
theorem read_long (s : ByteArray) (b : Int) (w : World) (h0 : 2 ≤ b) (h1 : b ≤ 36) (hs : 80 < s.size) :
    Calls Tryd.prog 65 #[.string s, .int .i64 b] w fun e w' => e = .returned (.tuple #[.int .i64 0, .int .i64 2]) ∧ Below w.heap.size w w' := by
  go_enter Tryd.func65, Tryd.ntmps65
  go_wp2
  go_ret2
  exact ⟨rfl, Below.refl _ _⟩

theorem read_any (s : ByteArray) (b : Int) (w : World) :
    Calls Tryd.prog 65 #[.string s, .int .i64 b] w fun e w' => e = .returned (.tuple #[.int .i64 (Num.readN s.data.toList b).1, .int .i64 (Num.readN s.data.toList b).2]) ∧ Below w.heap.size w w' := by
  have hl : s.data.toList.length = s.size := rfl
  unfold Num.readN
  by_cases h1 : b < 2 ∨ 36 < b
  · rw [if_pos h1]; exact read_arg s b w h1
  · rw [if_neg h1]
    by_cases h2 : 80 < s.data.toList.length
    · rw [if_pos h2]; exact read_long s b w (by omega) (by omega) (by omega)
    · rw [if_neg h2]
      obtain ⟨n, rfl⟩ := Int.eq_ofNat_of_zero_le (show 0 ≤ b by omega)
      refine read_walk s ⟨(Lib.trimPrefix s.data.toList [45]).toArray⟩ (Lib.hasPrefix s.data.toList [45]) n w (by omega) (by omega) (by omega) ?_ (Lib.hid fun w => ?_)
      · have := Lib.trimPrefix_le s.data.toList [45]
        show (Lib.trimPrefix s.data.toList [45]).toArray.size ≤ 80
        simp; omega
      · exact (Tryd.strings_CutPrefix s ⟨#[45]⟩ w).mono fun e w' ⟨h, hw⟩ => ⟨h, hw.symm⟩

end Go.Proofs.YtnjjilnfpdepoaaDoor
