/-
  The plain side of DecimalGroups: the law's own grouping is that of decimal.Group, for every text; no program in sight.
-/
import Derived.Lib.Split
import Derived.Lib.Replace
import Derived.Lib.Join
import Derived.Lib.SlTrimSet
import Derived.Test.YtnjjilnfpdepoaaDoorGrpAny
namespace Go.Proofs.YtnjjilnfpdepoaaDoor
open Go

/-- The groups of digits, counted from the end. -/
def Num.chunks (sz : Nat) (l : List UInt8) (gs : List (List UInt8)) : List (List UInt8) :=
  if _h : l.length ≤ sz ∨ sz = 0 then l :: gs else Num.chunks sz (l.take (l.length - sz)) (l.drop (l.length - sz) :: gs)
termination_by l.length
decreasing_by simp; omega

theorem Num.chunks_acc (sz : Nat) : ∀ (n : Nat) (l : List UInt8) (gs : List (List UInt8)), l.length ≤ n → Num.chunks sz l gs = Num.chunks sz l [] ++ gs := by
  intro n
  induction n with
  | zero =>
    intro l gs h
    rw [Num.chunks, dif_pos (by omega), Num.chunks, dif_pos (by omega)]; rfl
  | succ n ih =>
    intro l gs h
    by_cases hc : l.length ≤ sz ∨ sz = 0
    · rw [Num.chunks, dif_pos hc, Num.chunks, dif_pos hc]; rfl
    · have hl : (l.take (l.length - sz)).length ≤ n := by rw [List.length_take]; omega
      rw [Num.chunks, dif_neg hc, ih _ _ hl]
      conv => rhs; rw [Num.chunks, dif_neg hc, ih _ _ hl]
      simp

theorem Num.chunks_ne (sz : Nat) : ∀ (n : Nat) (l : List UInt8) (gs : List (List UInt8)), l.length ≤ n → Num.chunks sz l gs ≠ [] := by
  intro n
  induction n with
  | zero => intro l gs h; rw [Num.chunks, dif_pos (by omega)]; simp
  | succ n ih =>
    intro l gs h
    by_cases hc : l.length ≤ sz ∨ sz = 0
    · rw [Num.chunks, dif_pos hc]; simp
    · rw [Num.chunks, dif_neg hc]; exact ih _ _ (by rw [List.length_take]; omega)

theorem join_snoc (xs : List (List UInt8)) (b sep : List UInt8) (h : xs ≠ []) : Lib.join (xs ++ [b]) sep = Lib.join xs sep ++ sep ++ b := by
  match xs, h with
  | x :: r, _ =>
    rw [List.cons_append, Lib.join_cons, Lib.join_cons]
    simp [Lib.joinTail]

theorem Num.ins_short (sz : Nat) (sep : UInt8) : ∀ (l : List UInt8) (f : Bool), (f = true ∧ l.length ≤ sz ∨ l.length < sz) → Num.ins sz sep f l = l
  | [], f, _ => rfl
  | c :: l, f, h => by
    rw [List.length_cons] at h
    rw [Num.ins, Num.ins_short sz sep l false (by right; omega), if_neg]
    · rfl
    · rintro ⟨hf, hm⟩
      rcases h with ⟨h1, _⟩ | h
      · rw [hf] at h1; cases h1
      · rw [Nat.mod_eq_of_lt h] at hm; omega

theorem Num.ins_append (sz : Nat) (sep : UInt8) (b : List UInt8) (hb : b.length = sz) : ∀ (a : List UInt8) (f : Bool), Num.ins sz sep f (a ++ b) = Num.ins sz sep f a ++ Num.ins sz sep (f && a.isEmpty) b
  | [], f => by simp [Num.ins]
  | c :: l, f => by
    rw [List.cons_append, Num.ins, Num.ins_append sz sep b hb l false, Num.ins, List.length_append, hb]
    have : (l.length + sz + 1) % sz = (l.length + 1) % sz := by rw [show l.length + sz + 1 = l.length + 1 + sz by omega, Nat.add_mod_right]
    rw [this]; simp

theorem Num.join_chunks (sz : Nat) (sep : UInt8) (h1 : 1 ≤ sz) : ∀ (n : Nat) (l : List UInt8), l.length ≤ n → Lib.join (Num.chunks sz l []) [sep] = Num.ins sz sep true l := by
  intro n
  induction n with
  | zero =>
    intro l h
    rw [Num.chunks, dif_pos (by omega), Lib.join_one, Num.ins_short _ _ _ _ (by left; exact ⟨rfl, by omega⟩)]
  | succ n ih =>
    intro l h
    by_cases hc : l.length ≤ sz
    · rw [Num.chunks, dif_pos (Or.inl hc), Lib.join_one, Num.ins_short _ _ _ _ (by left; exact ⟨rfl, hc⟩)]
    · have hl : (l.take (l.length - sz)).length ≤ n := by rw [List.length_take]; omega
      rw [Num.chunks, dif_neg (by omega), Num.chunks_acc sz n _ _ hl, join_snoc _ _ _ (Num.chunks_ne sz n _ _ hl), ih _ hl]
      conv => rhs; rw [← List.take_append_drop (l.length - sz) l]
      have hb : (l.drop (l.length - sz)).length = sz := by rw [List.length_drop]; omega
      rw [Num.ins_append sz sep _ hb]
      have he : (l.take (l.length - sz)).isEmpty = false := by
        rw [List.isEmpty_eq_false_iff]; intro h0
        have := congrArg List.length h0
        rw [List.length_take] at this; simp at this; omega
      rw [he]
      generalize l.drop (l.length - sz) = b at hb
      match b, hb with
      | [], hb => simp at hb; omega
      | c :: b, hb =>
        rw [List.length_cons] at hb
        rw [Bool.and_false, Num.ins, if_pos ⟨rfl, by rw [hb]; exact Nat.mod_self _⟩, Num.ins_short sz sep b false (by right; omega)]
        simp

theorem Num.chunks_total (sz : Nat) : ∀ (n : Nat) (l : List UInt8) (gs : List (List UInt8)), l.length ≤ n → (Num.chunks sz l gs).length ≤ l.length + gs.length + 1 := by
  intro n
  induction n with
  | zero => intro l gs h; rw [Num.chunks, dif_pos (by omega)]; simp
  | succ n ih =>
    intro l gs h
    by_cases hc : l.length ≤ sz ∨ sz = 0
    · rw [Num.chunks, dif_pos hc]; simp
    · rw [Num.chunks, dif_neg hc]
      have := ih (l.take (l.length - sz)) (l.drop (l.length - sz) :: gs) (by rw [List.length_take]; omega)
      rw [List.length_take, List.length_cons] at this
      omega

/-! ### Split and Join without a separator are ReplaceAll by nothing -/

theorem join_flat : ∀ (xs : List (List UInt8)), Lib.join xs [] = xs.flatten
  | [] => rfl
  | x :: r => by rw [Lib.join_cons]; simp [Lib.joinTail]

theorem split_flat (old : List UInt8) : ∀ (n : Nat) (s : List UInt8), (Lib.splitK old 0 n s).flatten = Lib.replaceK old [] n s
  | 0, s => by simp [Lib.splitK, Lib.replaceK]
  | n + 1, s => by
    unfold Lib.splitK Lib.replaceK
    split
    · simp
    · rw [List.flatten_cons, split_flat old n]; simp

theorem split_join (s : List UInt8) (sep : UInt8) : Lib.join (Lib.split s [sep]) [] = Lib.replaceAll s [sep] [] := by
  rw [join_flat]
  unfold Lib.split Lib.replaceAll Lib.replace Lib.replaceNum
  rw [split_flat, if_neg (by simp), if_pos (by left; omega)]

theorem replaceK_length (old : List UInt8) : ∀ (n : Nat) (s : List UInt8), (Lib.replaceK old [] n s).length ≤ s.length
  | 0, s => by simp [Lib.replaceK]
  | n + 1, s => by
    unfold Lib.replaceK
    split
    · simp
    · have := replaceK_length old n (s.drop ((Lib.index s old).toNat + old.length))
      rw [List.length_drop] at this
      simp only [List.append_nil, List.length_append, List.length_take]
      omega

theorem replaceAll_length (s : List UInt8) (sep : UInt8) : (Lib.replaceAll s [sep] []).length ≤ s.length := by
  unfold Lib.replaceAll Lib.replace
  rw [if_neg (by simp)]
  exact replaceK_length _ _ _

/-! ### Trim leaves nothing: all bytes are in the set -/

theorem dropWhile_nil {p : UInt8 → Bool} : ∀ (l : List UInt8), l.dropWhile p = [] ↔ l.all p = true
  | [] => by simp
  | c :: l => by
    rw [List.dropWhile_cons, List.all_cons]
    cases h : p c
    · simp
    · simpa using dropWhile_nil l

theorem dropWhile_head {p : UInt8 → Bool} : ∀ (l : List UInt8), (l.dropWhile p).reverse.all p = true → l.dropWhile p = []
  | [], _ => rfl
  | c :: l, h => by
    rw [List.dropWhile_cons] at h ⊢
    cases hc : p c
    · rw [hc] at h; simp [hc] at h
    · rw [hc] at h
      simp only [if_true] at h ⊢
      exact dropWhile_head l h

theorem trimS_nil (l cs : List UInt8) : Lib.trimS l cs = [] ↔ l.all (cs.contains ·) = true := by
  unfold Lib.trimS Lib.trimLeftS Lib.trimRightS
  rw [dropWhile_nil]
  constructor
  · intro h
    have := dropWhile_head _ h
    rw [dropWhile_nil, List.all_reverse] at this
    exact this
  · intro h
    have h2 : l.reverse.dropWhile (cs.contains ·) = [] := by rw [dropWhile_nil, List.all_reverse]; exact h
    rw [h2]; rfl

/-! ### The point -/

theorem indexByte_snoc (c : UInt8) : ∀ (l : List UInt8), Lib.indexByte (l ++ [c]) c = if Lib.indexByte l c < 0 then (l.length : Int) else Lib.indexByte l c
  | [] => by simp [Lib.indexByte]
  | d :: l => by
    have ih := indexByte_snoc c l
    have hge := Lib.indexByte_ge l c
    rw [List.cons_append]
    unfold Lib.indexByte
    rw [ih]
    by_cases hd : (d == c) = true
    · rw [if_pos hd, if_pos hd, if_neg (by omega)]
    · rw [if_neg hd, if_neg hd]
      by_cases hneg : Lib.indexByte l c < 0
      · rw [if_pos hneg]
        have : Lib.indexByte l c = -1 := by omega
        rw [this]
        simp
      · rw [if_neg hneg]
        simp only [List.length_cons]
        have h1 : (Lib.indexByte l c == -1) = false := by rw [beq_eq_false_iff_ne]; omega
        simp only [h1]
        simp
        omega

end Go.Proofs.YtnjjilnfpdepoaaDoor
