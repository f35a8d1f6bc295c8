/-
  Plain laws on numerals: the digits of a number in a base, and what they are worth; no condition.
-/
import Derived.Lib.Strings
import Derived.Lib.Bytealg
namespace Go.Proofs.YtnjjilnfpdepoaaDoor.Num

/-- The byte of a digit's value. -/
def dg (n : Nat) : UInt8 := if n < 10 then UInt8.ofNat (48 + n) else UInt8.ofNat (87 + n)

/-- The digits of a number in a base of at least 2, the highest one first. -/
def num (b : Nat) (n : Nat) : List UInt8 := if _h : b < 2 ∨ n < b then [dg n] else num b (n / b) ++ [dg (n % b)]
termination_by n
decreasing_by
  have : 2 ≤ b := by omega
  exact Nat.div_lt_self (by omega) (by omega)

theorem num_small {b n : Nat} (h : n < b) : num b n = [dg n] := by
  unfold num
  rw [dif_pos (Or.inr h)]

theorem num_great {b n : Nat} (hb : 2 ≤ b) (h : b ≤ n) : num b n = num b (n / b) ++ [dg (n % b)] := by
  rw [num.eq_1 b n, dif_neg (by omega)]

theorem num_length_le {b : Nat} (hb : 2 ≤ b) : ∀ (k n : Nat), n < 2 ^ k → (num b n).length ≤ k + 1 := by
  intro k
  induction k with
  | zero => intro n h; rw [num_small (by omega)]; simp
  | succ k ih =>
    intro n h
    by_cases hn : n < b
    · rw [num_small hn]; simp
    · rw [num_great hb (by omega)]
      have h1 : n / b ≤ n / 2 := Nat.div_le_div_left hb (by omega)
      have h2 : n / 2 < 2 ^ k := by
        rw [Nat.div_lt_iff_lt_mul (by omega)]
        rw [Nat.pow_succ] at h; exact h
      have := ih (n / b) (by omega)
      simp; omega

theorem num_ne_nil (b n : Nat) : num b n ≠ [] := by
  unfold num; split <;> simp

/-- What the loop of 'digits' has written behind k rounds, and what is left: 'num b m ++ l' stays. -/
theorem num_step {b m : Nat} (hb : 2 ≤ b) (h : m / b ≠ 0) (l : List UInt8) : num b m ++ l = num b (m / b) ++ (dg (m % b) :: l) := by
  have hbm : b ≤ m := by
    rcases Nat.lt_or_ge m b with h1 | h1
    · exact absurd (Nat.div_eq_of_lt h1) h
    · exact h1
  rw [num_great hb hbm]; simp

theorem num_last {b m : Nat} (hb : 2 ≤ b) (h : m / b = 0) (l : List UInt8) : num b m ++ l = dg (m % b) :: l := by
  have hbm : m < b := by
    rcases Nat.lt_or_ge m b with h1 | h1
    · exact h1
    · have := Nat.div_pos h1 (by omega); omega
  rw [num_small hbm, Nat.mod_eq_of_lt hbm]; simp

/-- The value of a digit; -1: it is none. -/
def val (c : UInt8) : Int := if 48 ≤ c.toNat ∧ c.toNat ≤ 57 then (c.toNat : Int) - 48 else if 97 ≤ c.toNat ∧ c.toNat ≤ 122 then (c.toNat : Int) - 87 else -1

theorem val_le (c : UInt8) : -1 ≤ val c ∧ val c ≤ 35 := by
  unfold val
  split
  · omega
  · split <;> omega

/-- decimal.Read's loop: none: a byte is no digit; else the number, and whether it was too large. -/
def readGo (b : Int) : List UInt8 → Int → Bool → Option (Int × Bool)
  | [], n, lg => some (n, lg)
  | c :: l, n, lg => if val c < 0 ∨ b ≤ val c then none else if lg = true ∨ 9007199254740992 < n then readGo b l n true else readGo b l (n * b + val c) false

/-- Is the text behind the sign no numeral, by its first byte alone? -/
def bad (t : List UInt8) (neg : Bool) : Bool := t.isEmpty || (decide (1 < t.length) && t.head? == some 48) || (neg && t == [48])

/-- decimal.Read behind the sign. -/
def readBody (b : Int) (t : List UInt8) (neg : Bool) : Int × Int :=
  if bad t neg then (0, 14) else match readGo b t 0 false with
    | none => (0, 14)
    | some (n, lg) => if lg = true ∨ 9007199254740992 < n then (0, 11) else (if neg then -n else n, 0)

theorem fin_bad {b : Int} {t : List UInt8} {neg : Bool} (h : bad t neg = true) : readBody b t neg = (0, 14) := by unfold readBody; rw [h]; rfl
theorem fin_none {b : Int} {t : List UInt8} {neg : Bool} (h : bad t neg = false) (hg : readGo b t 0 false = none) : readBody b t neg = (0, 14) := by unfold readBody; rw [h, hg]; rfl
theorem fin_large {b n : Int} {t : List UInt8} {neg lg : Bool} (h : bad t neg = false) (hg : readGo b t 0 false = some (n, lg)) (hl : lg = true ∨ 9007199254740992 < n) : readBody b t neg = (0, 11) := by
  unfold readBody; rw [h, hg]; simp only [hl, if_true]; rfl
theorem fin_ok {b n : Int} {t : List UInt8} {neg : Bool} (h : bad t neg = false) (hg : readGo b t 0 false = some (n, false)) (hl : n ≤ 9007199254740992) : readBody b t neg = (if neg then -n else n, 0) := by
  have h2 : ¬ (false = true ∨ 9007199254740992 < n) := by simp; exact hl
  unfold readBody; rw [h, hg]; simp only [h2]; rfl
theorem go_bad {b n : Int} {c : UInt8} {l : List UInt8} {lg : Bool} (h : val c < 0 ∨ b ≤ val c) : readGo b (c :: l) n lg = none := by rw [readGo.eq_2, if_pos h]
theorem go_large {b n : Int} {c : UInt8} {l : List UInt8} {lg : Bool} (h : ¬ (val c < 0 ∨ b ≤ val c)) (h2 : lg = true ∨ 9007199254740992 < n) : readGo b (c :: l) n lg = readGo b l n true := by rw [readGo.eq_2, if_neg h, if_pos h2]
theorem go_on {b n : Int} {c : UInt8} {l : List UInt8} (h : ¬ (val c < 0 ∨ b ≤ val c)) (h2 : n ≤ 9007199254740992) : readGo b (c :: l) n false = readGo b l (n * b + val c) false := by
  have h3 : ¬ (false = true ∨ 9007199254740992 < n) := by simp; exact h2
  rw [readGo.eq_2, if_neg h, if_neg h3]

/-- decimal.Read. -/
def readN (s : List UInt8) (b : Int) : Int × Int :=
  if b < 2 ∨ 36 < b then (0, 1) else if 80 < s.length then (0, 2) else readBody b (Lib.trimPrefix s [45]) (Lib.hasPrefix s [45])

/-- The digits' bytes. -/
def DIG : List UInt8 := [48, 49, 50, 51, 52, 53, 54, 55, 56, 57, 97, 98, 99, 100, 101, 102, 103, 104, 105, 106, 107, 108, 109, 110, 111, 112, 113, 114, 115, 116, 117, 118, 119, 120, 121, 122]

theorem idx_val_nat : ∀ n : Fin 256, Lib.indexByte DIG (UInt8.ofNat n.val) = val (UInt8.ofNat n.val) := by decide +kernel

theorem idx_val (c : UInt8) : Lib.indexByte DIG c = val c := by
  have := idx_val_nat ⟨c.toNat, c.toNat_lt⟩
  simpa using this

theorem idx_take (l : List UInt8) (c : UInt8) : ∀ b : Nat, Lib.indexByte (l.take b) c < 0 ↔ (Lib.indexByte l c < 0 ∨ (b : Int) ≤ Lib.indexByte l c) := by
  induction l with
  | nil => intro b; simp [Lib.indexByte]
  | cons d l ih =>
    intro b
    cases b with
    | zero =>
      simp only [List.take_zero]
      have := Lib.indexByte_ge (d :: l) c
      constructor
      · intro _; omega
      · intro _; simp [Lib.indexByte]
    | succ b =>
      have ih := ih b
      have h1 := Lib.indexByte_ge l c
      have h2 := Lib.indexByte_ge (l.take b) c
      simp only [List.take_succ_cons]
      rw [Lib.indexByte, Lib.indexByte]
      split
      · constructor <;> intro _ <;> omega
      · by_cases e1 : Lib.indexByte (l.take b) c = -1 <;> by_cases e2 : Lib.indexByte l c = -1
        · simp [e1, e2]
        · simp only [e1]
          have : (b : Int) ≤ Lib.indexByte l c := by omega
          simp; omega
        · omega
        · have : ¬ Lib.indexByte (l.take b) c < 0 := by omega
          have h3 : ¬ (Lib.indexByte l c < 0 ∨ (b : Int) ≤ Lib.indexByte l c) := by rw [← ih]; exact this
          simp [e1, e2]; omega

/-- Are all bytes digits of the base? -/
def okd (b : Int) (c : UInt8) : Bool := decide (0 ≤ val c) && decide (val c < b)
def digs (b : Int) (l : List UInt8) : Bool := l.all (okd b)

theorem readGo_none (b : Int) : ∀ (l : List UInt8) (n : Int) (lg : Bool), digs b l = false → readGo b l n lg = none := by
  intro l
  induction l with
  | nil => intro n lg h; simp [digs] at h
  | cons c l ih =>
    intro n lg h
    by_cases hc : val c < 0 ∨ b ≤ val c
    · exact go_bad hc
    · have h2 : digs b l = false := by
        simp only [digs, List.all_cons, Bool.and_eq_false_iff] at h
        rcases h with h | h
        · simp [okd] at h; omega
        · exact h
      rw [readGo.eq_2, if_neg hc]
      split
      · exact ih _ _ h2
      · exact ih _ _ h2

/-- The reference's Amount: none: too large. -/
def amt (b : Int) : List UInt8 → Int → Option Int
  | [], n => some n
  | c :: l, n => if 9007199254740992 < n * b + val c then none else amt b l (n * b + val c)

theorem readGo_true (b : Int) : ∀ (l : List UInt8) (n : Int), digs b l = true → readGo b l n true = some (n, true) := by
  intro l
  induction l with
  | nil => intro n _; rfl
  | cons c l ih =>
    intro n h
    simp only [digs, List.all_cons, Bool.and_eq_true] at h
    have hc : ¬ (val c < 0 ∨ b ≤ val c) := by simp [okd] at h; omega
    rw [go_large hc (Or.inl rfl)]
    exact ih n h.2

theorem readGo_amt (b : Int) : ∀ (l : List UInt8) (n : Int), digs b l = true → n ≤ 9007199254740992 →
    (∃ m, amt b l n = some m ∧ readGo b l n false = some (m, false) ∧ m ≤ 9007199254740992) ∨ (amt b l n = none ∧ ∃ m lg, readGo b l n false = some (m, lg) ∧ (lg = true ∨ 9007199254740992 < m)) := by
  intro l
  induction l with
  | nil => intro n _ hn; exact .inl ⟨n, rfl, rfl, hn⟩
  | cons c l ih =>
    intro n h hn
    have h' := h
    simp only [digs, List.all_cons, Bool.and_eq_true] at h
    have hc : ¬ (val c < 0 ∨ b ≤ val c) := by simp [okd] at h; omega
    rw [go_on hc hn, amt]
    by_cases hb : 9007199254740992 < n * b + val c
    · rw [if_pos hb]
      refine .inr ⟨rfl, ?_⟩
      cases l with
      | nil => exact ⟨_, _, rfl, .inr hb⟩
      | cons d l =>
        have h2 := h.2
        simp only [List.all_cons, Bool.and_eq_true] at h2
        have hd : ¬ (val d < 0 ∨ b ≤ val d) := by simp [okd] at h2; omega
        rw [go_large hd (Or.inr hb)]
        exact ⟨_, _, readGo_true b l _ h2.2, .inl rfl⟩
    · rw [if_neg hb]
      exact ih _ h.2 (by omega)

/-- What Read comes to, in the reference's words. -/
theorem readBody_eq (b : Int) (t : List UInt8) (neg : Bool) :
    readBody b t neg = if (bad t neg || !digs b t) = true then ((0, 14) : Int × Int) else match amt b t 0 with | none => (0, 11) | some m => (if neg then -m else m, 0) := by
  cases hb : bad t neg
  · cases hd : digs b t
    · rw [fin_none hb (readGo_none b t 0 false hd)]; rfl
    · rcases readGo_amt b t 0 hd (by omega) with ⟨m, h1, h2, h3⟩ | ⟨h1, m, lg, h2, h3⟩
      · rw [fin_ok hb h2 h3, h1]; rfl
      · rw [fin_large hb h2 h3, h1]; rfl
  · rw [fin_bad hb]; rfl

theorem hasPrefix_cons (l : List UInt8) : Lib.hasPrefix l [45] = (l.head? == some 45) := by
  cases l with
  | nil => rfl
  | cons c l =>
    show ((45 : UInt8) == c && List.isPrefixOf [] l) = (some c == some 45)
    rw [Bool.eq_iff_iff]
    simp only [List.isPrefixOf, Bool.and_true, beq_iff_eq, Option.some.injEq]
    exact ⟨fun h => h.symm, fun h => h.symm⟩

end Go.Proofs.YtnjjilnfpdepoaaDoor.Num
