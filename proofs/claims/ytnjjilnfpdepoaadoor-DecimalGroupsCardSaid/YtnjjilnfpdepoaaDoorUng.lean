/-
  The walk of decimal.Ungroup: the numeral of which Group makes a text, for every string, size and byte; one condition: internal/bytealg.MaxLen holds an int.
-/
import Derived.Test.YtnjjilnfpdepoaaDoorGrpAny
import Derived.Test.YtnjjilnfpdepoaaDoorShelfb
namespace Go.Proofs.YtnjjilnfpdepoaaDoor
open Go.RowKit
set_option maxRecDepth 100000

/-- What Ungroup returns. -/
def Num.ungroupN (s : List UInt8) (size : Int) (sep : UInt8) : List UInt8 × Int :=
  if Num.badArg size sep then ([], 1) else if 160 < s.length then ([], 2)
  else if (Num.groupN (Lib.replaceAll s [sep] []) size sep).2 = 0 ∧ (Num.groupN (Lib.replaceAll s [sep] []) size sep).1 = s then (Lib.replaceAll s [sep] [], 0) else ([], 14)

set_option maxHeartbeats 800000 in
theorem ungroup_arg (s : ByteArray) (size : Int) (sep : UInt8) (w : World) (h : Num.badArg size sep) :
    Calls Tryd.prog 29 #[.string s, .int .i64 size, .int .u8 (sep.toNat : Int)] w fun e w' => e = .returned (.tuple #[.string ⟨#[]⟩, .int .i64 1]) ∧ Below w.heap.size w w' := by
  obtain ⟨d, hd⟩ : ∃ d, d = Num.val sep := ⟨_, rfl⟩
  have hval : Hid (∀ w, Calls Tryd.prog 82 #[.int .u8 (sep.toNat : Int)] w fun e w' => e = .returned (.int .i64 d) ∧ w = w') := Lib.hid (by rw [hd]; exact fun w => value_any sep w)
  unfold Num.badArg at h
  rw [← hd] at h
  clear hd
  by_cases h1 : size < 1
  · clear h
    go_enter Tryd.func29, Tryd.ntmps29
    go_wp2_with (first | (go_at_call 82; refine (hval.out _).mono ?_; rintro e w' ⟨rfl, rfl⟩))
    go_ret2
    exact ⟨rfl, Below.refl _ _⟩
  · by_cases h2 : 15 < size
    · clear h
      go_enter Tryd.func29, Tryd.ntmps29
      go_wp2_with (first | (go_at_call 82; refine (hval.out _).mono ?_; rintro e w' ⟨rfl, rfl⟩))
      go_ret2
      exact ⟨rfl, Below.refl _ _⟩
    · by_cases h3 : 0 ≤ d
      · clear h
        have h3b : decide (0 ≤ d) = true := decide_eq_true h3
        go_enter Tryd.func29, Tryd.ntmps29
        go_wp2_with (first | (go_at_call 82; refine (hval.out _).mono ?_; rintro e w' ⟨rfl, rfl⟩))
        go_ret2
        exact ⟨rfl, Below.refl _ _⟩
      · have h3b : decide (0 ≤ d) = false := decide_eq_false h3
        by_cases h4 : sep.toNat = 45
        · have h4b : ((sep.toNat : Int) == 45) = true := by rw [beq_iff_eq]; omega
          clear h h4
          go_enter Tryd.func29, Tryd.ntmps29
          go_wp2_with (first | (go_at_call 82; refine (hval.out _).mono ?_; rintro e w' ⟨rfl, rfl⟩))
          go_ret2
          exact ⟨rfl, Below.refl _ _⟩
        · have h4b : ((sep.toNat : Int) == 45) = false := by rw [beq_eq_false_iff_ne]; omega
          have h5b : ((sep.toNat : Int) == 46) = true := by rw [beq_iff_eq]; omega
          clear h h4
          go_enter Tryd.func29, Tryd.ntmps29
          go_wp2_with (first | (go_at_call 82; refine (hval.out _).mono ?_; rintro e w' ⟨rfl, rfl⟩))
          go_ret2
          exact ⟨rfl, Below.refl _ _⟩

set_option maxHeartbeats 800000 in
theorem ungroup_long (s : ByteArray) (size : Int) (sep : UInt8) (w : World) (h : ¬ Num.badArg size sep) (hs : 160 < s.size) :
    Calls Tryd.prog 29 #[.string s, .int .i64 size, .int .u8 (sep.toNat : Int)] w fun e w' => e = .returned (.tuple #[.string ⟨#[]⟩, .int .i64 2]) ∧ Below w.heap.size w w' := by
  obtain ⟨d, hd⟩ : ∃ d, d = Num.val sep := ⟨_, rfl⟩
  have hval : Hid (∀ w, Calls Tryd.prog 82 #[.int .u8 (sep.toNat : Int)] w fun e w' => e = .returned (.int .i64 d) ∧ w = w') := Lib.hid (by rw [hd]; exact fun w => value_any sep w)
  unfold Num.badArg at h
  rw [← hd] at h
  clear hd
  have h1 : 1 ≤ size := by omega
  have h2 : size ≤ 15 := by omega
  have h3b : decide (0 ≤ d) = false := decide_eq_false (by omega)
  have h4b : ((sep.toNat : Int) == 45) = false := by rw [beq_eq_false_iff_ne]; omega
  have h5b : ((sep.toNat : Int) == 46) = false := by rw [beq_eq_false_iff_ne]; omega
  clear h
  go_enter Tryd.func29, Tryd.ntmps29
  go_wp2_with (first | (go_at_call 82; refine (hval.out _).mono ?_; rintro e w' ⟨rfl, rfl⟩))
  go_ret2
  exact ⟨rfl, Below.refl _ _⟩

set_option maxHeartbeats 1600000 in
theorem ungroup_walk (s o g : ByteArray) (er : Int) (size : Int) (sep : UInt8) (w : World) (h : ¬ Num.badArg size sep) (hs : s.size ≤ 160)
   (h61 : Hid (∀ w', Below w.heap.size w w' → Calls Tryd.prog 61 #[.string s, .string ⟨#[sep]⟩, .string ⟨#[]⟩] w' fun e w'' => e = .returned (.string o) ∧ Below w'.heap.size w' w''))
   (h28 : Hid (∀ w', Calls Tryd.prog 28 #[.string o, .int .i64 size, .int .u8 (sep.toNat : Int)] w' fun e w'' => e = .returned (.tuple #[.string g, .int .i64 er]) ∧ Below w'.heap.size w' w'')) :
    Calls Tryd.prog 29 #[.string s, .int .i64 size, .int .u8 (sep.toNat : Int)] w fun e w' => e = .returned (if er = 0 ∧ g = s then .tuple #[.string o, .int .i64 0] else .tuple #[.string ⟨#[]⟩, .int .i64 14]) ∧ Below w.heap.size w w' := by
  obtain ⟨d, hd⟩ : ∃ d, d = Num.val sep := ⟨_, rfl⟩
  have hval : Hid (∀ w, Calls Tryd.prog 82 #[.int .u8 (sep.toNat : Int)] w fun e w' => e = .returned (.int .i64 d) ∧ w = w') := Lib.hid (by rw [hd]; exact fun w => value_any sep w)
  unfold Num.badArg at h
  rw [← hd] at h
  clear hd
  have h1 : 1 ≤ size := by omega
  have h2 : size ≤ 15 := by omega
  have h3b : decide (0 ≤ d) = false := decide_eq_false (by omega)
  have h4b : ((sep.toNat : Int) == 45) = false := by rw [beq_eq_false_iff_ne]; omega
  have h5b : ((sep.toNat : Int) == 46) = false := by rw [beq_eq_false_iff_ne]; omega
  clear h
  obtain ⟨R, hR⟩ : ∃ R : Value, R = (if er = 0 ∧ g = s then .tuple #[.string o, .int .i64 0] else .tuple #[.string ⟨#[]⟩, .int .i64 14]) := ⟨_, rfl⟩
  rw [← hR]
  replace hR := Lib.hid hR
  go_enter Tryd.func29, Tryd.ntmps29
  go_upto_region 5 with (first | (go_at_call 82; refine (hval.out _).mono ?_; rintro e w' ⟨rfl, rfl⟩))
  have hst : (convert 47 9 (.slice (some ⟨w.heap.size, 0, none⟩) 1 1)).run Tryd.prog (w.alloc (.cells #[.int .u8 (sep.toNat : Int)] 5)) = .ok (.string ⟨#[sep]⟩) (w.alloc (.cells #[.int .u8 (sep.toNat : Int)] 5)) :=
    run_convert_bytes_back (P := Tryd.prog) (w.alloc (.cells #[.int .u8 (sep.toNat : Int)] 5)) 47 9 5 ⟨w.heap.size, 0, none⟩ 1 [sep] Tryd.underlying47 Tryd.underlying5 Tryd.underlying9 (fun j hj => by
      have hj0 : j = 0 := by simpa using hj
      subst hj0
      have hn := heap_alloc_new w (.cells #[.int .u8 (sep.toNat : Int)] 5)
      show (w.alloc (.cells #[.int .u8 (sep.toNat : Int)] 5)).cell? ⟨w.heap.size, 0, none⟩ = _
      simp only [World.cell?, hn]
      rfl)
  have HB1 : Hid (Below w.heap.size w (w.alloc (.cells #[.int .u8 (sep.toNat : Int)] 5))) := Lib.hid ((Below.refl _ _).alloc (Nat.le_refl _) _)
  obtain ⟨w1, hw1⟩ : ∃ w1, w1 = w.alloc (.cells #[.int .u8 (sep.toNat : Int)] 5) := ⟨_, rfl⟩
  go_upto_region 7 with (first | (go_at_call 61; refine (h61.out _ HB1.out).mono ?_; rintro e w2 ⟨rfl, HB2⟩) | (go_at_call 28; refine (h28.out _).mono ?_; rintro e w3 ⟨rfl, HB3⟩))
  have HB : Hid (Below w.heap.size w w3) := Lib.hid ((HB1.out.trans (HB2.mono HB1.out.size)).trans (HB3.mono (HB1.out.trans (HB2.mono HB1.out.size)).size))
  by_cases he : er = 0
  · by_cases hg : g = s
    · have hR2 := Lib.hid (hR.out.trans (if_pos ⟨he, hg⟩))
      subst he
      have hgb : (g.toList == s.toList) = true := by rw [hg]; simp
      go_wp2
      go_ret2
      exact ⟨by rw [hR2.out]; rfl, HB.out⟩
    · have hR2 := Lib.hid (hR.out.trans (if_neg (fun h => hg h.2)))
      have hgb : (g.toList == s.toList) = false := (Lib.bytes_beq_false_iff g s).2 hg
      subst he
      go_wp2
      go_ret2
      exact ⟨by rw [hR2.out]; rfl, HB.out⟩
  · have hR2 := Lib.hid (hR.out.trans (if_neg (fun h => he h.1)))
    have heb : (er != 0) = true := by simp [he]
    go_wp2
    go_ret2
    exact ⟨by rw [hR2.out]; rfl, HB.out⟩

theorem cell_below {w w' : World} {m : Int} (hm : w.cell? ⟨0, 0, none⟩ = some (.int .i64 m)) (hb : Below w.heap.size w w') : w'.cell? ⟨0, 0, none⟩ = some (.int .i64 m) := by
  have h0 : 0 < w.heap.size := by
    rcases Nat.eq_zero_or_pos w.heap.size with h | h
    · simp [World.cell?, Array.size_eq_zero_iff.1 h] at hm
    · exact h
  have := hb.block 0 h0
  simp only [World.cell?] at hm ⊢
  rw [this]
  exact hm

theorem ungroup_any (s : ByteArray) (size : Int) (sep : UInt8) (m : Int) (w : World) (hm : w.cell? ⟨0, 0, none⟩ = some (.int .i64 m)) :
    Calls Tryd.prog 29 #[.string s, .int .i64 size, .int .u8 (sep.toNat : Int)] w fun e w' => e = .returned (.tuple #[.string ⟨(Num.ungroupN s.data.toList size sep).1.toArray⟩, .int .i64 (Num.ungroupN s.data.toList size sep).2]) ∧ Below w.heap.size w w' := by
  have hl : s.data.toList.length = s.size := rfl
  unfold Num.ungroupN
  by_cases h1 : Num.badArg size sep
  · rw [if_pos h1]; exact ungroup_arg s size sep w h1
  · rw [if_neg h1]
    by_cases h2 : 160 < s.data.toList.length
    · rw [if_pos h2]; exact ungroup_long s size sep w h1 (by omega)
    · rw [if_neg h2]
      have hw := ungroup_walk s ⟨(Lib.replaceAll s.data.toList [sep] []).toArray⟩ ⟨(Num.groupN (Lib.replaceAll s.data.toList [sep] []) size sep).1.toArray⟩ (Num.groupN (Lib.replaceAll s.data.toList [sep] []) size sep).2 size sep w h1 (by omega)
        (Lib.hid fun w' hb => Tryd.strings_ReplaceAll s ⟨#[sep]⟩ ⟨#[]⟩ m w' (by omega) (cell_below hm hb) (Nat.le_refl _) (by show s.size + _ * 0 ≤ _; omega))
        (Lib.hid fun w' => group_any ⟨(Lib.replaceAll s.data.toList [sep] []).toArray⟩ size sep w')
      have he : ((⟨(Num.groupN (Lib.replaceAll s.data.toList [sep] []) size sep).1.toArray⟩ : ByteArray) = s) ↔ (Num.groupN (Lib.replaceAll s.data.toList [sep] []) size sep).1 = s.data.toList := by
        constructor
        · intro h; exact congrArg (fun b : ByteArray => b.data.toList) h
        · intro h; rw [h]
      refine hw.mono fun e w' ⟨h, hb⟩ => ⟨?_, hb⟩
      rw [h]
      by_cases hc : (Num.groupN (Lib.replaceAll s.data.toList [sep] []) size sep).2 = 0 ∧ (Num.groupN (Lib.replaceAll s.data.toList [sep] []) size sep).1 = s.data.toList
      · rw [if_pos ⟨hc.1, he.2 hc.2⟩, if_pos hc]
      · rw [if_neg (fun h => hc ⟨h.1, he.1 h.2⟩), if_neg hc]

end Go.Proofs.YtnjjilnfpdepoaaDoor
