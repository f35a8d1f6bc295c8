/-
  decimal.Group for every string, size and byte: what it computes, in lists and numbers.
-/
import Derived.Test.YtnjjilnfpdepoaaDoorGrp
namespace Go.Proofs.YtnjjilnfpdepoaaDoor
open Go.RowKit
set_option maxRecDepth 100000

/-- A text about its first byte c. -/
def Num.cut (l : List UInt8) (c : UInt8) : List UInt8 × List UInt8 × Bool :=
  if Lib.indexByte l c < 0 then (l, [], false) else (l.take (Lib.indexByte l c).toNat, l.drop ((Lib.indexByte l c).toNat + 1), true)

theorem Num.cut_length (l : List UInt8) (c : UInt8) : (Num.cut l c).1.length + (Num.cut l c).2.1.length ≤ l.length := by
  unfold Num.cut
  split <;> simp
  omega

def Num.badArg (size : Int) (sep : UInt8) : Prop := size < 1 ∨ 15 < size ∨ 0 ≤ Num.val sep ∨ sep.toNat = 45 ∨ sep.toNat = 46
instance (size : Int) (sep : UInt8) : Decidable (Num.badArg size sep) := by unfold Num.badArg; exact inferInstance

/-- What Group returns for a text of no more than 80 bytes and right numbers. -/
def Num.grp (s : List UInt8) (sz : Nat) (sep : UInt8) : List UInt8 × Int :=
  Num.group sz sep (Lib.hasPrefix s [45]) (Num.cut (Lib.trimPrefix s [45]) 46).1 (Num.cut (Lib.trimPrefix s [45]) 46).2.1 (Num.cut (Lib.trimPrefix s [45]) 46).2.2

def Num.groupN (s : List UInt8) (size : Int) (sep : UInt8) : List UInt8 × Int :=
  if Num.badArg size sep then ([], 1) else if 80 < s.length then ([], 2) else Num.grp s size.toNat sep

theorem cut_ev (b : ByteArray) (hb : b.size ≤ 140737488351232) (c : UInt8) :
    PCut.strings_Cut.f b (⟨#[c]⟩ : ByteArray) = some (⟨(Num.cut b.data.toList c).1.toArray⟩, ⟨(Num.cut b.data.toList c).2.1.toArray⟩, (Num.cut b.data.toList c).2.2) := by
  have hl : b.data.toList.length = b.size := rfl
  have hc : (⟨#[c]⟩ : ByteArray).size = 1 := rfl
  unfold PCut.strings_Cut.f PCut.stringslite_Cut.f PCut.stringslite_Index.f Num.cut
  rw [if_pos hc]
  have hge := Lib.indexByte_ge b.data.toList c
  have hhd : (⟨#[c]⟩ : ByteArray).data.toList.headD 0 = c := rfl
  rw [hhd]
  by_cases h : Lib.indexByte b.data.toList c = -1
  · rw [h]
    rfl
  · obtain ⟨o, ho⟩ : ∃ o : Nat, Lib.indexByte b.data.toList c = o := ⟨(Lib.indexByte b.data.toList c).toNat, by omega⟩
    have h1 := (Lib.indexByte_some ho).1
    have h2 : o < b.size := by
      have := (List.getElem?_eq_some_iff.1 h1).1
      omega
    rw [ho]
    simp only [Option.bind_some]
    have hw : wrap64 ((o : Int) + ((⟨#[c]⟩ : ByteArray).size : Int)) = ((o + 1 : Nat) : Int) := by rw [hc]; unfold wrap64; omega
    rw [hw, if_pos (by omega), if_pos (by omega), if_pos (by omega), if_pos (by omega), if_pos (by omega), if_neg (by omega)]
    simp only [Int.toNat_natCast]
    have e1 : b.extract 0 o = ⟨(b.data.toList.take o).toArray⟩ := by
      apply ByteArray.ext; apply Array.ext'
      rw [Lib.extract_data]; simp
    have e2 : b.extract (o + 1) b.size = ⟨(b.data.toList.drop (o + 1)).toArray⟩ := by
      apply ByteArray.ext; apply Array.ext'
      rw [Lib.extract_data]
      simp [List.take_of_length_le, hl]
    rw [e1, e2]; rfl

theorem cut_calls (b : ByteArray) (hb : b.size ≤ 140737488351232) (c : UInt8) (w : World) :
    Calls Tryd.prog 24 #[.string b, .string ⟨#[c]⟩] w fun e w' => e = .returned (.tuple #[.string ⟨(Num.cut b.data.toList c).1.toArray⟩, .string ⟨(Num.cut b.data.toList c).2.1.toArray⟩, .bool (Num.cut b.data.toList c).2.2]) ∧ Below w.heap.size w w' :=
  (PCut.strings_Cut.calls b ⟨#[c]⟩ _ _ _ w (cut_ev b hb c)).mono fun e w' ⟨h, nd, hn⟩ => ⟨h, by rw [hn]; exact ⟨rfl, rfl, rfl, Nat.le_refl _, fun _ _ => rfl⟩⟩

set_option maxHeartbeats 800000 in
theorem group_arg (s : ByteArray) (size : Int) (sep : UInt8) (w : World) (h : Num.badArg size sep) :
    Calls Tryd.prog 28 #[.string s, .int .i64 size, .int .u8 (sep.toNat : Int)] w fun e w' => e = .returned (.tuple #[.string ⟨#[]⟩, .int .i64 1]) ∧ Below w.heap.size w w' := by
  obtain ⟨d, hd⟩ : ∃ d, d = Num.val sep := ⟨_, rfl⟩
  have hval : Hid (∀ w, Calls Tryd.prog 82 #[.int .u8 (sep.toNat : Int)] w fun e w' => e = .returned (.int .i64 d) ∧ w = w') := Lib.hid (by rw [hd]; exact fun w => value_any sep w)
  unfold Num.badArg at h
  rw [← hd] at h
  clear hd
  by_cases h1 : size < 1
  · clear h
    go_enter Tryd.func28, Tryd.ntmps28
    go_wp2_with (first | (go_at_call 82; refine (hval.out _).mono ?_; rintro e w' ⟨rfl, rfl⟩))
    go_ret2
    exact ⟨rfl, Below.refl _ _⟩
  · by_cases h2 : 15 < size
    · clear h
      go_enter Tryd.func28, Tryd.ntmps28
      go_wp2_with (first | (go_at_call 82; refine (hval.out _).mono ?_; rintro e w' ⟨rfl, rfl⟩))
      go_ret2
      exact ⟨rfl, Below.refl _ _⟩
    · by_cases h3 : 0 ≤ d
      · clear h
        have h3b : decide (0 ≤ d) = true := decide_eq_true h3
        go_enter Tryd.func28, Tryd.ntmps28
        go_wp2_with (first | (go_at_call 82; refine (hval.out _).mono ?_; rintro e w' ⟨rfl, rfl⟩))
        go_ret2
        exact ⟨rfl, Below.refl _ _⟩
      · have h3b : decide (0 ≤ d) = false := decide_eq_false h3
        by_cases h4 : sep.toNat = 45
        · have h4b : ((sep.toNat : Int) == 45) = true := by rw [beq_iff_eq]; omega
          clear h h4
          go_enter Tryd.func28, Tryd.ntmps28
          go_wp2_with (first | (go_at_call 82; refine (hval.out _).mono ?_; rintro e w' ⟨rfl, rfl⟩))
          go_ret2
          exact ⟨rfl, Below.refl _ _⟩
        · have h4b : ((sep.toNat : Int) == 45) = false := by rw [beq_eq_false_iff_ne]; omega
          have h5b : ((sep.toNat : Int) == 46) = true := by rw [beq_iff_eq]; omega
          clear h h4
          go_enter Tryd.func28, Tryd.ntmps28
          go_wp2_with (first | (go_at_call 82; refine (hval.out _).mono ?_; rintro e w' ⟨rfl, rfl⟩))
          go_ret2
          exact ⟨rfl, Below.refl _ _⟩

set_option maxHeartbeats 800000 in
theorem group_long (s : ByteArray) (size : Int) (sep : UInt8) (w : World) (h : ¬ Num.badArg size sep) (hs : 80 < s.size) :
    Calls Tryd.prog 28 #[.string s, .int .i64 size, .int .u8 (sep.toNat : Int)] w fun e w' => e = .returned (.tuple #[.string ⟨#[]⟩, .int .i64 2]) ∧ Below w.heap.size w w' := by
  obtain ⟨d, hd⟩ : ∃ d, d = Num.val sep := ⟨_, rfl⟩
  have hval : Hid (∀ w, Calls Tryd.prog 82 #[.int .u8 (sep.toNat : Int)] w fun e w' => e = .returned (.int .i64 d) ∧ w = w') := Lib.hid (by rw [hd]; exact fun w => value_any sep w)
  unfold Num.badArg at h
  rw [← hd] at h
  clear hd
  have h1 : 1 ≤ size := by omega
  have h2 : size ≤ 15 := by omega
  have h3 : d < 0 := by omega
  have h3b : decide (0 ≤ d) = false := decide_eq_false (by omega)
  have h4b : ((sep.toNat : Int) == 45) = false := by rw [beq_eq_false_iff_ne]; omega
  have h5b : ((sep.toNat : Int) == 46) = false := by rw [beq_eq_false_iff_ne]; omega
  clear h
  go_enter Tryd.func28, Tryd.ntmps28
  go_wp2_with (first | (go_at_call 82; refine (hval.out _).mono ?_; rintro e w' ⟨rfl, rfl⟩))
  go_ret2
  exact ⟨rfl, Below.refl _ _⟩

theorem group_any (s : ByteArray) (size : Int) (sep : UInt8) (w : World) :
    Calls Tryd.prog 28 #[.string s, .int .i64 size, .int .u8 (sep.toNat : Int)] w fun e w' => e = .returned (.tuple #[.string ⟨(Num.groupN s.data.toList size sep).1.toArray⟩, .int .i64 (Num.groupN s.data.toList size sep).2]) ∧ Below w.heap.size w w' := by
  have hl : s.data.toList.length = s.size := rfl
  unfold Num.groupN
  by_cases h1 : Num.badArg size sep
  · rw [if_pos h1]; exact group_arg s size sep w h1
  · rw [if_neg h1]
    by_cases h2 : 80 < s.data.toList.length
    · rw [if_pos h2]; exact group_long s size sep w h1 (by omega)
    · rw [if_neg h2]
      unfold Num.badArg at h1
      obtain ⟨n, rfl⟩ := Int.eq_ofNat_of_zero_le (show 0 ≤ size by omega)
      have ht := Lib.trimPrefix_le s.data.toList [45]
      have hc := Num.cut_length (Lib.trimPrefix s.data.toList [45]) 46
      have hw := group_walk s ⟨(Lib.trimPrefix s.data.toList [45]).toArray⟩ ⟨(Num.cut (Lib.trimPrefix s.data.toList [45]) 46).1.toArray⟩ ⟨(Num.cut (Lib.trimPrefix s.data.toList [45]) 46).2.1.toArray⟩
        (Lib.hasPrefix s.data.toList [45]) (Num.cut (Lib.trimPrefix s.data.toList [45]) 46).2.2 n sep w (by omega) (by omega) (by omega)
        (by show (Num.cut (Lib.trimPrefix s.data.toList [45]) 46).1.toArray.size + (Num.cut (Lib.trimPrefix s.data.toList [45]) 46).2.1.toArray.size ≤ 80
            simp only [List.size_toArray]; omega)
        (by omega) (by omega) (by omega)
        (Lib.hid fun w => (Tryd.strings_CutPrefix s ⟨#[45]⟩ w).mono fun e w' ⟨h, hw⟩ => ⟨h, hw.symm⟩)
        (Lib.hid fun w => cut_calls ⟨(Lib.trimPrefix s.data.toList [45]).toArray⟩ (by show (Lib.trimPrefix s.data.toList [45]).toArray.size ≤ _; rw [List.size_toArray]; omega) 46 w)
      exact hw

end Go.Proofs.YtnjjilnfpdepoaaDoor
