/-
  The plain law of DecimalTexts: what the program's Text and Read compute is what the reference gives, for every number, base and string; no condition.
-/
import Derived.Test.YtnjjilnfpdepoaaPDecimalTextsx3
namespace Go.Proofs.Ytnjjilnfpdepoaa.Pure
open Go.RowKit Go.Proofs.Ytnjjilnfpdepoaa.PDecimalTexts Go.Proofs.YtnjjilnfpdepoaaW.PrintWords Go.Proofs.YtnjjilnfpdepoaaW.PrintLast Go.Proofs.Ytnjjilnfpdepoaa.Num

theorem tl (s : ByteArray) : s.toList = s.data.toList := ByteArray.toList_eq s

theorem bt_get (s : ByteArray) (i : Nat) (h : i < s.size) : bt s (i : Int) = ((s.data.toList.getD i 0).toNat : Int) := by
  unfold bt
  rw [dif_pos (by simpa using h)]
  rw [List.getD_eq_getElem?_getD, List.getElem?_eq_getElem (by exact h)]
  rfl

theorem toNat_u8 (c : UInt8) : ((c.toNat : Int)).toNat.toUInt8 = c := by simp

theorem wrap_add {i : Int} (h0 : 0 ≤ i) (h : i ≤ 140737488351232) : wrap64 (i + 1) = i + 1 := by unfold wrap64; omega

theorem drop_at {l : List UInt8} {k : Nat} (h : k < l.length) : l.drop k = l.getD k 0 :: l.drop (k + 1) := by
  rw [List.drop_eq_getElem_cons h, List.getD_eq_getElem?_getD, List.getElem?_eq_getElem h]; rfl

/-! ### decimal.Text -/
def textN (n b : Int) : ByteArray × Int :=
  if b < 2 ∨ 36 < b then (⟨#[]⟩, 1) else if n < -9007199254740992 ∨ 9007199254740992 < n then (⟨#[]⟩, 11) else
    if n < 0 then ((⟨#[45]⟩ : ByteArray) ++ ⟨(num b.toNat (-n).toNat).toArray⟩, 0) else (⟨(num b.toNat n.toNat).toArray⟩, 0)

theorem digits_some {n b : Int} (h0 : 0 ≤ n) (h1 : n ≤ 9007199254740992) (h2 : 2 ≤ b) (h3 : b ≤ 36) : decimal_digits.f n b = some ⟨(num b.toNat n.toNat).toArray⟩ := by
  unfold decimal_digits.f; rw [if_pos h0, if_pos h1, if_pos h2, if_pos h3]

theorem size_num {b n : Nat} (hb : 2 ≤ b) (h : n ≤ 9007199254740992) : (⟨(num b n).toArray⟩ : ByteArray).size ≤ 55 := by
  have := num_length_le hb 54 n (by omega)
  show (num b n).toArray.size ≤ 55
  simpa using this

theorem textN_arg {n b : Int} (h : b < 2 ∨ 36 < b) : textN n b = (⟨#[]⟩, 1) := by unfold textN; rw [if_pos h]
theorem textN_range {n b : Int} (h : ¬ (b < 2 ∨ 36 < b)) (h2 : n < -9007199254740992 ∨ 9007199254740992 < n) : textN n b = (⟨#[]⟩, 11) := by unfold textN; rw [if_neg h, if_pos h2]
theorem textN_neg {n b : Int} (h : ¬ (b < 2 ∨ 36 < b)) (h2 : ¬ (n < -9007199254740992 ∨ 9007199254740992 < n)) (h3 : n < 0) : textN n b = ((⟨#[45]⟩ : ByteArray) ++ ⟨(num b.toNat (-n).toNat).toArray⟩, 0) := by
  unfold textN; rw [if_neg h, if_neg h2, if_pos h3]
theorem textN_pos {n b : Int} (h : ¬ (b < 2 ∨ 36 < b)) (h2 : ¬ (n < -9007199254740992 ∨ 9007199254740992 < n)) (h3 : ¬ n < 0) : textN n b = (⟨(num b.toNat n.toNat).toArray⟩, 0) := by
  unfold textN; rw [if_neg h, if_neg h2, if_neg h3]

theorem text_ev (n b : Int) (k : Nat) : decimal_Text.f (k + 1) n b = some (textN n b) := by
  unfold decimal_Text.f
  by_cases hb : b < 2
  · rw [if_pos hb, textN_arg (Or.inl hb)]; rfl
  · rw [if_neg hb]
    by_cases hb2 : 36 < b
    · rw [textN_arg (Or.inr hb2)]; simp only [decimal_Text.j0]; rw [if_pos (by simpa using hb2)]
    · have hh : ¬ (b < 2 ∨ 36 < b) := by omega
      simp only [decimal_Text.j0]
      rw [if_neg (by simpa using hb2)]
      unfold decimal_right.f
      by_cases h1 : n ≥ -9007199254740992
      · rw [if_pos h1]
        simp only [Option.bind_some]
        by_cases h2 : n ≤ 9007199254740992
        · have hr : ¬ (n < -9007199254740992 ∨ 9007199254740992 < n) := by omega
          rw [if_pos (by simpa using h2)]
          by_cases h3 : n < 0
          · have e : wrap64 (-n) = -n := by unfold wrap64; omega
            rw [textN_neg hh hr h3, if_pos h3, e, digits_some (by omega) (by omega) (by omega) (by omega)]
            simp only [Option.bind_some]
            have := size_num (b := b.toNat) (n := (-n).toNat) (by omega) (by omega)
            rw [if_pos (by omega)]
          · rw [textN_pos hh hr h3, if_neg h3, digits_some (by omega) (by omega) (by omega) (by omega)]
            rfl
        · rw [if_neg (by simpa using h2), textN_range hh (by omega)]
      · rw [if_neg h1, textN_range hh (by omega)]
        simp

theorem numbered_ev (k : Nat) : claplaw1_numbered.f (k + 1) = some true := by
  unfold claplaw1_numbered.f
  rw [text_ev]
  have e : textN 255 16 = (⟨(num 16 255).toArray⟩, 0) := textN_pos (by omega) (by omega) (by omega)
  have e2 : num 16 255 = [102, 102] := by
    rw [num_great (by omega) (by omega), num_small (by omega)]; rfl
  rw [e, e2, Option.bind_some, if_pos rfl, tl]
  rfl

/-! ### the reference's Numeral -/
theorem dig_nth : ∀ n : Fin 36, (DIG.drop n.val).take 1 = [dg n.val] := by decide

theorem dig_at (n : Nat) (h : n < 36) : (⟨#[48, 49, 50, 51, 52, 53, 54, 55, 56, 57, 97, 98, 99, 100, 101, 102, 103, 104, 105, 106, 107, 108, 109, 110, 111, 112, 113, 114, 115, 116, 117, 118, 119, 120, 121, 122]⟩ : ByteArray).extract n (n + 1) = ⟨[dg n].toArray⟩ := by
  apply Go.WideShapes.bytes_inj
  rw [Lib.extract_data, show n + 1 - n = 1 by omega]
  exact dig_nth ⟨n, h⟩

theorem numeral_step (k n b q r : Nat) (hb : 2 ≤ b) (hn : b ≤ n) (hm : n ≤ 9007199254740992) (e1 : Int.tdiv (n : Int) (b : Int) = (q : Int)) (e2 : Int.tmod (n : Int) (b : Int) = (r : Int)) (hq : q ≤ n) (hr : r ≤ n)
    (f1 : clapref1_Numeral.f k (q : Int) (b : Int) = some ⟨(num b q).toArray⟩) (f2 : clapref1_Numeral.f k (r : Int) (b : Int) = some ⟨(num b r).toArray⟩) :
    clapref1_Numeral.f (k + 1) (n : Int) (b : Int) = some ⟨(num b q ++ num b r).toArray⟩ := by
  have e3 : wrap64 (q : Int) = (q : Int) := by unfold wrap64; omega
  have s1 := size_num (n := q) hb (by omega)
  have s2 := size_num (n := r) hb (by omega)
  simp only [clapref1_Numeral.f]
  rw [if_neg (by omega), if_neg (by omega), e1, e2, e3, f1, f2]
  simp only [Option.bind_some]
  rw [if_pos (by omega)]
  congr 1

theorem numeral_ev (b : Nat) (hb : 2 ≤ b) (hb2 : b ≤ 36) : ∀ (d n : Nat), n < 2 ^ d → n ≤ 9007199254740992 → ∀ k, d < k → clapref1_Numeral.f k (n : Int) (b : Int) = some ⟨(num b n).toArray⟩ := by
  intro d
  induction d with
  | zero =>
    intro n hn hm k hk
    obtain ⟨k, rfl⟩ : ∃ m, k = m + 1 := ⟨k - 1, by omega⟩
    obtain rfl : n = 0 := by omega
    simp only [clapref1_Numeral.f]
    have e : wrap64 (((0 : Nat) : Int) + 1) = 1 := by unfold wrap64; omega
    rw [if_pos (by omega), if_pos (by omega), e, if_pos (by omega), if_pos (by omega), num_small (by omega)]
    exact congrArg some (dig_at 0 (by omega))
  | succ d ih =>
    intro n hn hm k hk
    obtain ⟨k, rfl⟩ : ∃ m, k = m + 1 := ⟨k - 1, by omega⟩
    by_cases h : n < b
    · simp only [clapref1_Numeral.f]
      have e : wrap64 ((n : Int) + 1) = ((n + 1 : Nat) : Int) := by unfold wrap64; omega
      rw [if_pos (by omega), if_pos (by omega), e, if_pos (by omega), if_pos (by omega), num_small h]
      rw [Int.toNat_natCast, Int.toNat_natCast, dig_at n (by omega)]
    · have h1 : n / b ≤ n / 2 := Nat.div_le_div_left hb (by omega)
      have h2 : n % b < b := Nat.mod_lt _ (by omega)
      have h3 : 2 * (n % b) < n := by have := Nat.div_add_mod n b; have h4 : 1 ≤ n / b := Nat.div_pos (by omega) (by omega); have h5 : b * 1 ≤ b * (n / b) := Nat.mul_le_mul_left b h4; omega
      have hp : 2 ^ (d + 1) = 2 * 2 ^ d := by rw [Nat.pow_succ]; omega
      have h4 := numeral_step k n b (n / b) (n % b) hb (by omega) hm (Int.ofNat_tdiv n b).symm (Int.ofNat_tmod n b).symm (by omega) (by omega)
        (ih (n / b) (by omega) (by omega) k (by omega)) (ih (n % b) (by omega) (by omega) k (by omega))
      rw [num_great hb (by omega), ← num_small (b := b) (n := n % b) h2]
      exact h4


/-! ### the reference's Whole -/
abbrev DIGS : ByteArray := ⟨#[48, 49, 50, 51, 52, 53, 54, 55, 56, 57, 97, 98, 99, 100, 101, 102, 103, 104, 105, 106, 107, 108, 109, 110, 111, 112, 113, 114, 115, 116, 117, 118, 119, 120, 121, 122]⟩

theorem idx_part (b : Nat) (c : UInt8) : ∃ i, strings_IndexByte.f (DIGS.extract 0 b) (c.toNat : Int) = some i ∧ (i < 0 ↔ okd b c = false) := by
  refine ⟨_, rfl, ?_⟩
  rw [Lib.extract_data, toNat_u8, show b - 0 = b by omega, List.drop_zero]
  show Lib.indexByte (DIG.take b) c < 0 ↔ _
  rw [idx_take, idx_val]
  simp [okd]
  omega

theorem whole_loop (s : ByteArray) (b : Nat) (hs : s.size ≤ 140737488351232) : ∀ (d i : Nat), i + d = s.size → ∀ k, d < k →
    clapref1_Whole.l0 k s (DIGS.extract 0 b) (s.size : Int) (i : Int) = some (digs b (s.data.toList.drop i)) := by
  have hl : s.data.toList.length = s.size := rfl
  intro d
  induction d with
  | zero =>
    intro i hi k hk
    obtain ⟨k, rfl⟩ : ∃ m, k = m + 1 := ⟨k - 1, by omega⟩
    simp only [clapref1_Whole.l0]
    rw [if_neg (by omega), List.drop_eq_nil_of_le (by omega)]
    rfl
  | succ d ih =>
    intro i hi k hk
    obtain ⟨k, rfl⟩ : ∃ m, k = m + 1 := ⟨k - 1, by omega⟩
    have h := ih (i + 1) (by omega) k (by omega)
    simp only [clapref1_Whole.l0]
    rw [if_pos (by omega), if_pos (by omega), if_pos (by omega), bt_get s i (by omega), drop_at (show i < s.data.toList.length by omega)]
    obtain ⟨c, hc⟩ : ∃ c, c = s.data.toList.getD i 0 := ⟨_, rfl⟩
    rw [← hc]
    obtain ⟨j, hj, hj2⟩ := idx_part b c
    rw [hj]
    simp only [Option.bind_some]
    rw [wrap_add (by omega) (by omega)]
    show (if j < 0 then some false else clapref1_Whole.l0 k s (DIGS.extract 0 b) (s.size : Int) ((i : Int) + 1)) = some (okd b c && digs b (s.data.toList.drop (i + 1)))
    by_cases h0 : j < 0
    · rw [if_pos h0, hj2.1 h0]; rfl
    · rw [if_neg h0]
      have h1 : okd b c = true := by
        cases e : okd b c
        · exact absurd (hj2.2 e) h0
        · rfl
      rw [h1, Bool.true_and, ← h]
      rfl

/-- The text behind the sign, and whether there is one. -/
abbrev body (s : ByteArray) : List UInt8 := Lib.trimPrefix s.data.toList [45]
abbrev neg (s : ByteArray) : Bool := Lib.hasPrefix s.data.toList [45]

theorem body_eq (s : ByteArray) : body s = s.data.toList ↔ neg s = false := by
  unfold body neg Lib.trimPrefix
  by_cases h : Lib.hasPrefix s.data.toList [45] = true
  · rw [if_pos h, h]
    have : s.data.toList ≠ [] := by
      intro e; rw [e] at h; simp [Lib.hasPrefix] at h
    constructor
    · intro e
      have h2 : s.data.toList.length - 1 = s.data.toList.length := by simpa using congrArg List.length e
      have h3 : 0 < s.data.toList.length := List.length_pos_iff.2 this
      omega
    · intro e; cases e
  · rw [if_neg h]; simp [h]

theorem whole_ev (s : ByteArray) (hs : s.size ≤ 140737488351232) (b : Nat) (hb : b ≤ 36) (k : Nat) (hk : s.size < k) :
    clapref1_Whole.f (k + 1) s (b : Int) = some (!bad (body s) (neg s) && digs b (body s)) := by
  have hle : (body s).length ≤ s.data.toList.length := Lib.trimPrefix_le s.data.toList [45]
  have hl : s.data.toList.length = s.size := rfl
  obtain ⟨t, ht⟩ : ∃ t : ByteArray, t = ⟨(body s).toArray⟩ := ⟨_, rfl⟩
  have htl : t.data.toList = body s := by rw [ht]
  have hts : (t.size : Int) = ((body s).length : Int) := by rw [← htl]; rfl
  have htn : t.size = (body s).length := by rw [← htl]; rfl
  have hj : ∀ v : Bool, clapref1_Whole.j0 (k + 1) (b : Int) t v = some (!v && digs b (body s)) := by
    intro v
    simp only [clapref1_Whole.j0]
    cases v
    · have hw := whole_loop t b (by omega) t.size 0 (by omega) k (by omega)
      rw [if_neg (by simp), if_pos (by omega), if_pos (by omega), Int.toNat_natCast]
      show clapref1_Whole.l0 k t (DIGS.extract 0 b) (t.size : Int) ((0 : Nat) : Int) = _
      rw [hw, htl]; rfl
    · rfl
  have hj2 : ∀ v : Bool, v = bad (body s) (neg s) → clapref1_Whole.j0 (k + 1) (b : Int) t v = some (!bad (body s) (neg s) && digs b (body s)) := by
    intro v hv; rw [hj v, hv]
  unfold clapref1_Whole.f
  have e : strings_TrimPrefix.f s (⟨#[45]⟩ : ByteArray) = some t := by rw [ht]; rfl
  rw [e, Option.bind_some, tl, htl, tl]
  have hb0 : 0 < (body s).length → (bt t 0 == 48) = ((body s).head? == some 48) := by
    intro h
    have := bt_get t 0 (by omega)
    rw [htl] at this
    rw [show ((0 : Int)) = ((0 : Nat) : Int) from rfl, this]
    cases hbs : body s with
    | nil => rw [hbs] at h; simp at h
    | cons c l =>
      show (((c.toNat : Nat) : Int) == 48) = (some c == some 48)
      rw [Bool.eq_iff_iff, beq_iff_eq, beq_iff_eq, Option.some.injEq, ← UInt8.toNat_inj]
      show _ ↔ c.toNat = 48
      omega
  by_cases h1 : body s = []
  · rw [if_pos h1]; exact hj2 _ (by simp [bad, h1])
  · rw [if_neg h1]
    have hpos : 0 < (body s).length := List.length_pos_iff.2 h1
    have hem : (body s).isEmpty = false := by simpa using h1
    have hb0 := hb0 hpos
    by_cases h2 : body s = s.data.toList
    · have hn := (body_eq s).1 h2
      rw [if_pos h2]
      by_cases h3 : (t.size : Int) > 1
      · have h3b : decide (1 < (body s).length) = true := decide_eq_true (by omega)
        rw [if_pos h3, if_pos (by omega)]
        exact hj2 _ (by unfold bad; rw [hem, hn, h3b, hb0]; simp)
      · have h3b : decide (1 < (body s).length) = false := decide_eq_false (by omega)
        rw [if_neg h3]
        exact hj2 _ (by unfold bad; rw [hem, hn, h3b]; simp)
    · have hn : neg s = true := by
        cases e : neg s
        · exact absurd ((body_eq s).2 e) h2
        · rfl
      rw [if_neg h2]
      by_cases h4 : body s = [48]
      · rw [if_pos h4]
        exact hj2 _ (by simp [bad, h4, hn])
      · have h4b : (body s == [48]) = false := by simpa using h4
        rw [if_neg h4]
        by_cases h3 : (t.size : Int) > 1
        · have h3b : decide (1 < (body s).length) = true := decide_eq_true (by omega)
          rw [if_pos h3, if_pos (by omega)]
          exact hj2 _ (by unfold bad; rw [hem, hn, h3b, hb0, h4b]; simp)
        · have h3b : decide (1 < (body s).length) = false := decide_eq_false (by omega)
          rw [if_neg h3]
          exact hj2 _ (by unfold bad; rw [hem, hn, h3b, h4b]; simp)

/-! ### the reference's Amount -/
theorem idx_whole (c : UInt8) : strings_IndexByte.f DIGS (c.toNat : Int) = some (val c) := by
  unfold strings_IndexByte.f
  rw [toNat_u8]
  exact congrArg some (idx_val c)

def amtR (s : ByteArray) : Option Int → Int × Bool
  | none => (0, false)
  | some m => (if neg s then -m else m, true)

theorem first_byte (s : ByteArray) (h : 0 < s.size) : (bt s 0 = 45) ↔ neg s = true := by
  have h1 := bt_get s 0 h
  rw [show ((0 : Int)) = ((0 : Nat) : Int) from rfl, h1]
  unfold neg
  rw [hasPrefix_cons]
  have hl : s.data.toList.length = s.size := rfl
  cases hbs : s.data.toList with
  | nil => rw [hbs] at hl; simp at hl; omega
  | cons c l =>
    show ((c.toNat : Nat) : Int) = 45 ↔ (some c == some (45 : UInt8)) = true
    rw [beq_iff_eq, Option.some.injEq, ← UInt8.toNat_inj]
    show _ ↔ c.toNat = 45
    omega

theorem amount_loop (s : ByteArray) (b : Nat) (hb : b ≤ 36) (hs : s.size ≤ 140737488351232) (h0 : 0 < s.size) : ∀ (d i : Nat) (n : Int), i + d = s.size → 0 ≤ n → n ≤ 9007199254740992 → digs b (s.data.toList.drop i) = true → ∀ k, d < k →
    clapref1_Amount.l0 k s (b : Int) n (s.size : Int) (i : Int) = some (amtR s (amt b (s.data.toList.drop i) n)) := by
  have hl : s.data.toList.length = s.size := rfl
  intro d
  induction d with
  | zero =>
    intro i n hi hn0 hn1 _ k hk
    obtain ⟨k, rfl⟩ : ∃ m, k = m + 1 := ⟨k - 1, by omega⟩
    have e : wrap64 (-n) = -n := by unfold wrap64; omega
    simp only [clapref1_Amount.l0]
    rw [if_neg (by omega), if_pos (by omega), List.drop_eq_nil_of_le (by omega), e]
    by_cases hf : bt s 0 = 45
    · rw [if_pos hf]
      have := (first_byte s h0).1 hf
      simp only [amt, amtR, this]; rfl
    · rw [if_neg hf]
      have h2 : neg s = false := by
        cases e2 : neg s
        · rfl
        · exact absurd ((first_byte s h0).2 e2) hf
      simp only [amt, amtR, h2]; rfl
  | succ d ih =>
    intro i n hi hn0 hn1 hd k hk
    obtain ⟨k, rfl⟩ : ∃ m, k = m + 1 := ⟨k - 1, by omega⟩
    have hdr := drop_at (show i < s.data.toList.length by omega)
    rw [hdr] at hd ⊢
    have hih := ih (i + 1)
    simp only [clapref1_Amount.l0]
    rw [if_pos (by omega), if_pos (by omega), if_pos (by omega), bt_get s i (by omega)]
    obtain ⟨c, hc⟩ : ∃ c, c = s.data.toList.getD i 0 := ⟨_, rfl⟩
    rw [← hc] at hd ⊢
    simp only [digs, List.all_cons, Bool.and_eq_true] at hd
    have hv := val_le c
    have hok : 0 ≤ val c ∧ val c < b := by have := hd.1; simpa [okd] using this
    have h45 : ¬ ((c.toNat : Int) = 45) := by
      intro e
      have : val c = -1 := by unfold val; rw [if_neg (by omega), if_neg (by omega)]
      omega
    have hm0 : 0 ≤ n * (b : Int) := Int.mul_nonneg hn0 (by omega)
    have hm1 : n * (b : Int) ≤ 324259173170675712 := by
      have h1 : n * (b : Int) ≤ 9007199254740992 * (b : Int) := Int.mul_le_mul_of_nonneg_right (by omega) (by omega)
      omega
    have e1 : wrap64 (n * (b : Int)) = n * (b : Int) := by unfold wrap64; omega
    have e2 : wrap64 (n * (b : Int) + val c) = n * (b : Int) + val c := by unfold wrap64; omega
    rw [if_neg h45, idx_whole]
    simp only [Option.bind_some]
    rw [e1, e2, wrap_add (by omega) (by omega), amt]
    by_cases hg : 9007199254740992 < n * (b : Int) + val c
    · rw [if_pos hg, if_pos hg]; rfl
    · rw [if_neg hg, if_neg hg]
      exact hih _ (by omega) (by omega) (by omega) hd.2 k (by omega)

theorem amount_ev (s : ByteArray) (b : Nat) (hb : b ≤ 36) (hs : s.size ≤ 140737488351232) (hw : (!bad (body s) (neg s) && digs b (body s)) = true) (k : Nat) (hk : s.size < k) :
    clapref1_Amount.f (k + 1) s (b : Int) = some (amtR s (amt b (body s) 0)) := by
  have hl : s.data.toList.length = s.size := rfl
  simp only [Bool.and_eq_true, Bool.not_eq_true'] at hw
  obtain ⟨hbad, hd⟩ := hw
  have hne : body s ≠ [] := by intro e; simp [bad, e] at hbad
  have h0 : 0 < s.size := by
    rcases Nat.eq_zero_or_pos s.size with h | h
    · exfalso
      have h1 : s.data.toList = [] := List.eq_nil_of_length_eq_zero (by omega)
      exact hne (by show Lib.trimPrefix s.data.toList [45] = []; rw [h1]; rfl)
    · exact h
  unfold clapref1_Amount.f
  cases hn : neg s
  · have e := (body_eq s).2 hn
    have := amount_loop s b hb hs h0 s.size 0 0 (by omega) (by omega) (by omega) (by rw [List.drop_zero, ← e]; exact hd) (k + 1) (by omega)
    rw [List.drop_zero, ← e] at this
    exact this
  · have hb1 : body s = s.data.toList.drop 1 := by
      show Lib.trimPrefix s.data.toList [45] = _
      unfold Lib.trimPrefix
      rw [if_pos hn]; rfl
    have := amount_loop s b hb hs h0 (s.size - 1) 1 0 (by omega) (by omega) (by omega) (by rw [← hb1]; exact hd) k (by omega)
    rw [← hb1] at this
    simp only [clapref1_Amount.l0]
    rw [if_pos (by omega), if_pos (by omega), if_pos (by omega), if_pos ((first_byte s h0).2 hn), wrap_add (by omega) (by omega)]
    exact this

/-! ### the law -/
theorem read_eq (s : ByteArray) (b : Int) : decimal_Read.f s b = some (readN s.data.toList b) := rfl

theorem law_tail (b : Nat) (hb2 : 2 ≤ b) (hb : b ≤ 36) (s : ByteArray) (hs : s.size ≤ 140737488351232) (x : ByteArray) (e : Int) (K : Nat) (hK : s.size + 2 < K) :
    claplaw1_DecimalTexts.j1 (K + 1) (b : Int) s x e (readN s.data.toList (b : Int)).1 (readN s.data.toList (b : Int)).2 x e = some true := by
  have hl : s.data.toList.length = s.size := rfl
  obtain ⟨K, rfl⟩ : ∃ m, K = m + 1 := ⟨K - 1, by omega⟩
  simp only [claplaw1_DecimalTexts.j1]
  have hr : readN s.data.toList (b : Int) = if 80 < s.size then (0, 2) else readBody b (body s) (neg s) := by
    unfold readN; rw [if_neg (by omega), hl]
  rw [hr, numbered_ev]
  by_cases h1 : (s.size : Int) > 80
  · rw [if_pos h1, if_pos (show 80 < s.size by omega)]
    simp
  · rw [if_neg h1, if_neg (show ¬ 80 < s.size by omega), whole_ev s hs b hb K (by omega), readBody_eq]
    simp only [Option.bind_some]
    cases hw : (!bad (body s) (neg s) && digs b (body s))
    · have h3 : (bad (body s) (neg s) || !digs b (body s)) = true := by
        cases h4 : bad (body s) (neg s) <;> cases h5 : digs b (body s) <;> simp_all
      rw [if_neg (by simp), if_pos h3]
      simp
    · have h3 : ¬ (bad (body s) (neg s) || !digs b (body s)) = true := by
        cases h4 : bad (body s) (neg s) <;> cases h5 : digs b (body s) <;> simp_all
      rw [if_pos rfl, amount_ev s b hb hs hw K (by omega), if_neg h3]
      simp only [Option.bind_some]
      cases amt b (body s) 0 with
      | none => simp [amtR]
      | some m => simp [amtR]

theorem DecimalTexts : claplaw1_DecimalTexts.Pure := by
  intro n b s hn hb hs
  refine ⟨s.size + 100, ?_⟩
  obtain ⟨K, hK⟩ : ∃ K, K = s.size + 98 := ⟨_, rfl⟩
  rw [show s.size + 100 = K + 1 + 1 by omega]
  unfold claplaw1_DecimalTexts.f
  rw [text_ev, read_eq, Option.bind_some, Option.bind_some]
  have harg : ∀ v : Bool, v = true → (b < 2 ∨ 36 < b) → claplaw1_DecimalTexts.j0 (K + 1 + 1) n b s (textN n b).1 (textN n b).2 (readN s.data.toList b).1 (readN s.data.toList b).2 v = some true := by
    intro v hv h
    simp only [claplaw1_DecimalTexts.j0]
    rw [if_pos hv, numbered_ev, textN_arg h]
    have : readN s.data.toList b = (0, 1) := by unfold readN; rw [if_pos h]
    rw [this]
    simp [tl]
  by_cases h1 : b < 2
  · rw [if_pos h1]; exact harg true rfl (.inl h1)
  · rw [if_neg h1]
    by_cases h2 : 36 < b
    · exact harg _ (by simpa using h2) (.inr h2)
    · simp only [claplaw1_DecimalTexts.j0]
      have hh : ¬ (b < 2 ∨ 36 < b) := by omega
      rw [if_neg (by simpa using h2)]
      unfold claplaw1_right.f
      obtain ⟨c, rfl⟩ := Int.eq_ofNat_of_zero_le (show 0 ≤ b by omega)
      by_cases h3 : n ≥ -9007199254740992
      · rw [if_pos h3]
        simp only [Option.bind_some]
        by_cases h4 : n ≤ 9007199254740992
        · have hr : ¬ (n < -9007199254740992 ∨ 9007199254740992 < n) := by omega
          have e : wrap64 (-n) = -n := by unfold wrap64; omega
          have hmx : mx n (wrap64 (-n)) = (n.natAbs : Int) := by rw [e]; unfold mx; split <;> omega
          rw [if_pos (by simpa using h4), hmx, numeral_ev c (by omega) (by omega) 54 n.natAbs (by omega) (by omega) (K + 1) (by omega)]
          simp only [Option.bind_some]
          by_cases h5 : n < 0
          · have hna : (-n).toNat = n.natAbs := by omega
            have hsz := size_num (b := c) (n := n.natAbs) (by omega) (by omega)
            rw [if_pos h5, if_pos (by omega), textN_neg hh hr h5, Int.toNat_natCast, hna]
            exact law_tail c (by omega) (by omega) s hs _ _ K (by omega)
          · have hna : n.toNat = n.natAbs := by omega
            rw [if_neg h5, textN_pos hh hr h5, Int.toNat_natCast, hna]
            exact law_tail c (by omega) (by omega) s hs _ _ K (by omega)
        · rw [if_neg (by simpa using h4), textN_range hh (by omega)]
          exact law_tail c (by omega) (by omega) s hs _ _ K (by omega)
      · rw [if_neg h3, textN_range hh (by omega)]
        simp only [Option.bind_some]
        rw [if_neg (by simp)]
        exact law_tail c (by omega) (by omega) s hs _ _ K (by omega)

end Go.Proofs.Ytnjjilnfpdepoaa.Pure
