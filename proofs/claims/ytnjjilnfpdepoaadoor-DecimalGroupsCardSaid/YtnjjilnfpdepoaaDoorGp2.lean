/-
  The plain side of DecimalGroups, second part: the law's own grouping in one function, and that it says what decimal.Group and Ungroup say; no program in sight.
-/
import Derived.Test.YtnjjilnfpdepoaaDoorGplain
import Derived.Test.YtnjjilnfpdepoaaDoorUng
namespace Go.Proofs.YtnjjilnfpdepoaaDoor
open Go

def D36 : List UInt8 := [48, 49, 50, 51, 52, 53, 54, 55, 56, 57, 97, 98, 99, 100, 101, 102, 103, 104, 105, 106, 107, 108, 109, 110, 111, 112, 113, 114, 115, 116, 117, 118, 119, 120, 121, 122]

theorem val_mem (c : UInt8) : D36.contains c = decide (0 ≤ Num.val c) := by
  revert c
  have : ∀ i : Fin 256, D36.contains (UInt8.ofNat i.val) = decide (0 ≤ Num.val (UInt8.ofNat i.val)) := by decide +kernel
  intro c
  have h := this ⟨c.toNat, c.toNat_lt⟩
  simpa using h

/-- What the law's own grouping makes of the parts. -/
def Num.cloP (pre rest : List UInt8) (sz : Nat) (sep : UInt8) (x y : List UInt8) (pt : Bool) : List UInt8 × Bool :=
  if (x.isEmpty || (pt && y.isEmpty) || !(Lib.trimS x D36).isEmpty || !(Lib.trimS y D36).isEmpty) = true then ([], false)
  else (pre ++ Lib.join (Num.chunks sz x []) [sep] ++ rest, true)

/-- The law's own grouping. -/
def Num.clo (s : List UInt8) (sz : Nat) (sep : UInt8) : List UInt8 × Bool :=
  Num.cloP (s.take (s.length - (Lib.trimPrefix s [45]).length)) ((Lib.trimPrefix s [45]).drop (Lib.indexByte (Lib.trimPrefix s [45] ++ [46]) 46).toNat) sz sep
    (Num.cut (Lib.trimPrefix s [45]) 46).1 (Num.cut (Lib.trimPrefix s [45]) 46).2.1 (Num.cut (Lib.trimPrefix s [45]) 46).2.2

theorem trimS_empty (l : List UInt8) : (Lib.trimS l D36).isEmpty = Num.alnum l := by
  rw [Bool.eq_iff_iff, List.isEmpty_iff, trimS_nil]
  unfold Num.alnum
  have : (fun c => D36.contains c) = fun c => decide (0 ≤ Num.val c) := funext val_mem
  rw [this]

theorem cloP_group (pre rest : List UInt8) (sz : Nat) (sep : UInt8) (x y : List UInt8) (neg pt : Bool) (h1 : 1 ≤ sz) (hp : pre = if neg then [45] else []) (hr : rest = if pt then 46 :: y else []) :
    Num.group sz sep neg x y pt = if (Num.cloP pre rest sz sep x y pt).2 then ((Num.cloP pre rest sz sep x y pt).1, 0) else ((Num.cloP pre rest sz sep x y pt).1, 14) := by
  have hal : Num.alnum (x ++ y) = (Num.alnum x && Num.alnum y) := by unfold Num.alnum; rw [List.all_append]
  unfold Num.group Num.cloP
  rw [trimS_empty, trimS_empty, hal, Num.join_chunks sz sep h1 _ x (Nat.le_refl _), hp, hr]
  have hx : (x.isEmpty = true) = (x = []) := by simp
  by_cases hxe : x = []
  · subst hxe; simp
  · by_cases hye : pt = true ∧ y = []
    · obtain ⟨rfl, rfl⟩ := hye; simp
    · cases hax : Num.alnum x
      · simp
      · cases hay : Num.alnum y
        · simp
        · have c1 : ¬ ((true && true) = false ∨ x = [] ∨ pt = true ∧ y = []) := by simp [hxe]; simpa using hye
          have c2 : ¬ (x.isEmpty || pt && y.isEmpty || !true || !true) = true := by
            simp [hxe]; simpa using hye
          rw [if_neg c1, if_neg c2]; simp

theorem rest_eq (b : List UInt8) : b.drop (Lib.indexByte (b ++ [46]) 46).toNat = if (Num.cut b 46).2.2 then 46 :: (Num.cut b 46).2.1 else [] := by
  rw [indexByte_snoc]
  unfold Num.cut
  by_cases h : Lib.indexByte b 46 < 0
  · rw [if_pos h, if_pos h]; simp
  · rw [if_neg h, if_neg h]
    obtain ⟨o, ho⟩ : ∃ o : Nat, Lib.indexByte b 46 = o := ⟨(Lib.indexByte b 46).toNat, by omega⟩
    have h1 := (Lib.indexByte_some ho).1
    rw [ho]
    simp only [Int.toNat_natCast, if_true]
    have h2 : o < b.length := (List.getElem?_eq_some_iff.1 h1).1
    rw [List.drop_eq_getElem_cons h2]
    have h3 := (List.getElem?_eq_some_iff.1 h1).2
    rw [h3]

theorem pre_eq (s : List UInt8) : s.take (s.length - (Lib.trimPrefix s [45]).length) = if Lib.hasPrefix s [45] then [45] else [] := by
  unfold Lib.trimPrefix Lib.hasPrefix
  match s with
  | [] => rfl
  | c :: l =>
    by_cases h : (45 : UInt8) = c
    · subst h; simp [List.isPrefixOf]
    · have h2 : (List.isPrefixOf [45] (c :: l)) = false := by simp [List.isPrefixOf, h]
      rw [h2]; simp

theorem grp_clo (s : List UInt8) (sz : Nat) (sep : UInt8) (h1 : 1 ≤ sz) :
    Num.grp s sz sep = if (Num.clo s sz sep).2 then ((Num.clo s sz sep).1, 0) else ((Num.clo s sz sep).1, 14) :=
  cloP_group _ _ sz sep _ _ _ _ h1 (pre_eq s) (rest_eq _)

theorem index_snoc_le (b : List UInt8) : 0 ≤ Lib.indexByte (b ++ [46]) 46 ∧ (Lib.indexByte (b ++ [46]) 46).toNat ≤ b.length := by
  rw [indexByte_snoc]
  by_cases h : Lib.indexByte b 46 < 0
  · rw [if_pos h]; omega
  · rw [if_neg h]
    obtain ⟨o, ho⟩ : ∃ o : Nat, Lib.indexByte b 46 = o := ⟨(Lib.indexByte b 46).toNat, by omega⟩
    have h1 := (Lib.indexByte_some ho).1
    have h2 : o < b.length := (List.getElem?_eq_some_iff.1 h1).1
    omega

end Go.Proofs.YtnjjilnfpdepoaaDoor
