/-
  The law's own grouping (DecimalGroups$1) for every string of no more than 160 bytes, at whatever size and byte its variables hold; the law's fact of numerals.
-/
import Derived.Test.YtnjjilnfpdepoaaDoorClo
import Derived.Test.YtnjjilnfpdepoaaDoorGp2
import Derived.Test.YtnjjilnfpdepoaaDoorPnumberedx1
namespace Go.Proofs.YtnjjilnfpdepoaaDoor
open Go.RowKit
set_option maxRecDepth 100000

theorem clo_any (s : ByteArray) (sz A C : Nat) (sep : UInt8) (w : World) (h1 : 1 ≤ sz) (h2 : sz ≤ 15) (hs : s.size ≤ 160) (hA : A < w.heap.size) (hC : C < w.heap.size)
   (hsz : w.cell? ⟨A, 0, none⟩ = some (.int .i64 (sz : Int))) (hsp : w.cell? ⟨C, 0, none⟩ = some (.int .u8 (sep.toNat : Int))) :
    Calls Tryd.prog 22 #[.string s, .pointer (some ⟨A, 0, none⟩), .pointer (some ⟨C, 0, none⟩)] w fun e w' => e = .returned (.tuple #[.string ⟨(Num.clo s.data.toList sz sep).1.toArray⟩, .bool (Num.clo s.data.toList sz sep).2]) ∧ Below w.heap.size w w' := by
  have hl : s.data.toList.length = s.size := rfl
  have ht := Lib.trimPrefix_le s.data.toList [45]
  have hc := Num.cut_length (Lib.trimPrefix s.data.toList [45]) 46
  have hix := index_snoc_le (Lib.trimPrefix s.data.toList [45])
  have hsz' : ∀ l : List UInt8, (⟨l.toArray⟩ : ByteArray).size = l.length := fun l => by show l.toArray.size = _; simp
  obtain ⟨b, hb⟩ : ∃ b, b = Lib.trimPrefix s.data.toList [45] := ⟨_, rfl⟩
  unfold Num.clo
  rw [← hb] at ht hc hix ⊢
  obtain ⟨x, hx⟩ : ∃ x, x = (Num.cut b 46).1 := ⟨_, rfl⟩
  obtain ⟨y, hy⟩ : ∃ y, y = (Num.cut b 46).2.1 := ⟨_, rfl⟩
  obtain ⟨pt, hpt⟩ : ∃ pt, pt = (Num.cut b 46).2.2 := ⟨_, rfl⟩
  rw [← hx, ← hy] at hc
  rw [← hx, ← hy, ← hpt]
  obtain ⟨i, hi⟩ : ∃ i, i = (Lib.indexByte (b ++ [46]) 46).toNat := ⟨_, rfl⟩
  rw [← hi] at hix ⊢
  have hj := Num.join_chunks sz sep h1 _ x (Nat.le_refl _)
  have hjl := Num.ins_length sz sep x true
  rw [← hj] at hjl
  have hW := clo_walk (.tuple #[.string ⟨(Num.cloP (s.data.toList.take (s.data.toList.length - b.length)) (b.drop i) sz sep x y pt).1.toArray⟩, .bool (Num.cloP (s.data.toList.take (s.data.toList.length - b.length)) (b.drop i) sz sep x y pt).2])
    i s ⟨b.toArray⟩ ⟨x.toArray⟩ ⟨y.toArray⟩ ⟨(Lib.trimS x D36).toArray⟩ ⟨(Lib.trimS y D36).toArray⟩ ⟨(Lib.join (Num.chunks sz x []) [sep]).toArray⟩ pt sz A C sep w h1 h2 hs (by rw [hsz']; omega) (by rw [hsz', hsz', hsz']; omega) hA hC hsz hsp
    (Lib.hid fun h => by
      rw [Lib.toList_data, Lib.toList_data, Lib.toList_data, Lib.toList_data] at h
      unfold Num.cloP; rw [if_pos h])
    (Lib.hid fun h => by
      rw [Lib.toList_data, Lib.toList_data, Lib.toList_data, Lib.toList_data] at h
      unfold Num.cloP
      rw [if_neg (by rw [h]; simp)]
      congr 3
      apply congrArg Value.string
      apply ByteArray.ext; apply Array.ext'
      have e1 : ∀ a c : ByteArray, (a ++ c).data.toList = a.data.toList ++ c.data.toList := fun a c => by simp
      have e2 : (b.drop i).take (b.length - i) = b.drop i := List.take_of_length_le (by simp)
      have e3 : (⟨b.toArray⟩ : ByteArray).data.toList = b := rfl
      rw [e1, e1, Lib.extract_data, Lib.extract_data]
      simp only [hsz', e3, e2]
      simp [hl])
    (by rw [hsz']; omega) (Lib.hid rfl) (by rw [hsz']; omega)
    (Lib.hid fun w => (Tryd.strings_IndexByte _ _ w).mono fun e w' ⟨h, hw⟩ => ⟨by
      rw [h, hi]
      have e1 : ((⟨b.toArray⟩ : ByteArray) ++ ⟨#[46]⟩).data.toList = b ++ [46] := by simp
      rw [e1]
      have e2 : ((46 : Int).toNat.toUInt8) = 46 := rfl
      rw [e2]
      have := (index_snoc_le b).1
      congr 2
      omega, hw.symm⟩)
    (Lib.hid fun w => (Tryd.strings_TrimPrefix s ⟨#[45]⟩ w).mono fun e w' ⟨h, hw⟩ => ⟨by rw [h, hb], hw.symm⟩)
    (Lib.hid fun w => by
      have := cut_calls ⟨b.toArray⟩ (by rw [hsz']; omega) 46 w
      rw [hx, hy, hpt]; exact this)
    (Lib.hid fun w => trim_any ⟨x.toArray⟩ ⟨D36.toArray⟩ w (by rw [hsz']; omega) (by decide) (by decide))
    (Lib.hid fun w => trim_any ⟨y.toArray⟩ ⟨D36.toArray⟩ w (by rw [hsz']; omega) (by decide) (by decide))
  exact hW

theorem num_ff : Num.num 16 255 = [102, 102] := by
  rw [Num.num_great (by omega) (by omega), Num.num_small (by omega)]; rfl

theorem numbered17 (w : World) : Calls Tryd.prog 17 #[] w fun e w' => e = .returned (.bool true) ∧ Below w.heap.size w w' :=
  Pnumbered.claplaw1_numbered.walk ⟨2, by
    simp [Pnumbered.claplaw1_numbered.f, Pnumbered.decimal_Text.f, Pnumbered.decimal_Text.j0, Pnumbered.decimal_right.f, Pnumbered.decimal_digits.f, num_ff, Lib.toList_data]⟩ w

end Go.Proofs.YtnjjilnfpdepoaaDoor
