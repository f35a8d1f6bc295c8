/-
  The plain law of DecimalPoints: what the program's Fixed and ReadFixed compute is what the reference gives, for every number, number of places and string; no condition.
-/
import Derived.Test.YtnjjilnfpdepoaaDoorPDecimalPointsx4
namespace Go.Proofs.YtnjjilnfpdepoaaDoor.Pure
open Go.RowKit Go.Proofs.YtnjjilnfpdepoaaDoor.PDecimalPoints Go.Proofs.YtnjjilnfpdepoaaDoorW.PrintWords Go.Proofs.YtnjjilnfpdepoaaDoorW.PrintLast Go.Proofs.YtnjjilnfpdepoaaDoor.Num

theorem tl (s : ByteArray) : s.toList = s.data.toList := ByteArray.toList_eq s

theorem bt_get (s : ByteArray) (i : Nat) (h : i < s.size) : bt s (i : Int) = ((s.data.toList.getD i 0).toNat : Int) := by
  unfold bt
  rw [dif_pos (by simpa using h)]
  rw [List.getD_eq_getElem?_getD, List.getElem?_eq_getElem (by exact h)]
  rfl

theorem toNat_u8 (c : UInt8) : ((c.toNat : Int)).toNat.toUInt8 = c := by simp

theorem wrap_add {i : Int} (h0 : 0 ≤ i) (h : i ≤ 140737488351232) : wrap64 (i + 1) = i + 1 := by unfold wrap64; omega

theorem drop_at {l : List UInt8} {k : Nat} (h : k < l.length) : l.drop k = l.getD k 0 :: l.drop (k + 1) := by
  rw [List.drop_eq_getElem_cons h, List.getD_eq_getElem?_getD, List.getElem?_eq_getElem h]; rfl

/-! ### decimal.Text -/
def textN (n b : Int) : ByteArray × Int :=
  if b < 2 ∨ 36 < b then (⟨#[]⟩, 1) else if n < -9007199254740992 ∨ 9007199254740992 < n then (⟨#[]⟩, 11) else
    if n < 0 then ((⟨#[45]⟩ : ByteArray) ++ ⟨(num b.toNat (-n).toNat).toArray⟩, 0) else (⟨(num b.toNat n.toNat).toArray⟩, 0)

theorem digits_some {n b : Int} (h0 : 0 ≤ n) (h1 : n ≤ 9007199254740992) (h2 : 2 ≤ b) (h3 : b ≤ 36) : decimal_digits.f n b = some ⟨(num b.toNat n.toNat).toArray⟩ := by
  unfold decimal_digits.f; rw [if_pos ⟨h0, h1, h2, h3⟩]

theorem size_num {b n : Nat} (hb : 2 ≤ b) (h : n ≤ 9007199254740992) : (⟨(num b n).toArray⟩ : ByteArray).size ≤ 55 := by
  have := num_length_le hb 54 n (by omega)
  show (num b n).toArray.size ≤ 55
  simpa using this

theorem textN_arg {n b : Int} (h : b < 2 ∨ 36 < b) : textN n b = (⟨#[]⟩, 1) := by unfold textN; rw [if_pos h]
theorem textN_range {n b : Int} (h : ¬ (b < 2 ∨ 36 < b)) (h2 : n < -9007199254740992 ∨ 9007199254740992 < n) : textN n b = (⟨#[]⟩, 11) := by unfold textN; rw [if_neg h, if_pos h2]
theorem textN_neg {n b : Int} (h : ¬ (b < 2 ∨ 36 < b)) (h2 : ¬ (n < -9007199254740992 ∨ 9007199254740992 < n)) (h3 : n < 0) : textN n b = ((⟨#[45]⟩ : ByteArray) ++ ⟨(num b.toNat (-n).toNat).toArray⟩, 0) := by
  unfold textN; rw [if_neg h, if_neg h2, if_pos h3]
theorem textN_pos {n b : Int} (h : ¬ (b < 2 ∨ 36 < b)) (h2 : ¬ (n < -9007199254740992 ∨ 9007199254740992 < n)) (h3 : ¬ n < 0) : textN n b = (⟨(num b.toNat n.toNat).toArray⟩, 0) := by
  unfold textN; rw [if_neg h, if_neg h2, if_neg h3]

theorem text_ev (n b : Int) (k : Nat) : decimal_Text.f (k + 1) n b = some (textN n b) := by
  unfold decimal_Text.f
  by_cases hb : b < 2
  · rw [if_pos hb, textN_arg (Or.inl hb)]; rfl
  · rw [if_neg hb]
    by_cases hb2 : 36 < b
    · rw [textN_arg (Or.inr hb2)]; simp only [decimal_Text.j0]; rw [if_pos (by simpa using hb2)]
    · have hh : ¬ (b < 2 ∨ 36 < b) := by omega
      simp only [decimal_Text.j0]
      rw [if_neg (by simpa using hb2)]
      unfold decimal_right.f
      by_cases h1 : n ≥ -9007199254740992
      · rw [if_pos h1]
        simp only [Option.bind_some]
        by_cases h2 : n ≤ 9007199254740992
        · have hr : ¬ (n < -9007199254740992 ∨ 9007199254740992 < n) := by omega
          rw [if_pos (by simpa using h2)]
          by_cases h3 : n < 0
          · have e : wrap64 (-n) = -n := by unfold wrap64; omega
            rw [textN_neg hh hr h3, if_pos h3, e, digits_some (by omega) (by omega) (by omega) (by omega)]
            simp only [Option.bind_some]
            have := size_num (b := b.toNat) (n := (-n).toNat) (by omega) (by omega)
            rw [if_pos (by omega)]
          · rw [textN_pos hh hr h3, if_neg h3, digits_some (by omega) (by omega) (by omega) (by omega)]
            rfl
        · rw [if_neg (by simpa using h2), textN_range hh (by omega)]
      · rw [if_neg h1, textN_range hh (by omega)]
        simp

theorem numbered_ev (k : Nat) : claplaw1_numbered.f (k + 1) = some true := by
  unfold claplaw1_numbered.f
  rw [text_ev]
  have e : textN 255 16 = (⟨(num 16 255).toArray⟩, 0) := textN_pos (by omega) (by omega) (by omega)
  have e2 : num 16 255 = [102, 102] := by
    rw [num_great (by omega) (by omega), num_small (by omega)]; rfl
  rw [e, e2, Option.bind_some, if_pos rfl, tl]
  rfl

/-! ### the reference's Numeral -/
theorem dig_nth : ∀ n : Fin 36, (DIG.drop n.val).take 1 = [dg n.val] := by decide

theorem dig_at (n : Nat) (h : n < 36) : (⟨#[48, 49, 50, 51, 52, 53, 54, 55, 56, 57, 97, 98, 99, 100, 101, 102, 103, 104, 105, 106, 107, 108, 109, 110, 111, 112, 113, 114, 115, 116, 117, 118, 119, 120, 121, 122]⟩ : ByteArray).extract n (n + 1) = ⟨[dg n].toArray⟩ := by
  apply Go.WideShapes.bytes_inj
  rw [Lib.extract_data, show n + 1 - n = 1 by omega]
  exact dig_nth ⟨n, h⟩

theorem numeral_step (k n b q r : Nat) (hb : 2 ≤ b) (hn : b ≤ n) (hm : n ≤ 9007199254740992) (e1 : Int.tdiv (n : Int) (b : Int) = (q : Int)) (e2 : Int.tmod (n : Int) (b : Int) = (r : Int)) (hq : q ≤ n) (hr : r ≤ n)
    (f1 : clapref1_Numeral.f k (q : Int) (b : Int) = some ⟨(num b q).toArray⟩) (f2 : clapref1_Numeral.f k (r : Int) (b : Int) = some ⟨(num b r).toArray⟩) :
    clapref1_Numeral.f (k + 1) (n : Int) (b : Int) = some ⟨(num b q ++ num b r).toArray⟩ := by
  have e3 : wrap64 (q : Int) = (q : Int) := by unfold wrap64; omega
  have s1 := size_num (n := q) hb (by omega)
  have s2 := size_num (n := r) hb (by omega)
  simp only [clapref1_Numeral.f]
  rw [if_neg (by omega), if_neg (by omega), e1, e2, e3, f1, f2]
  simp only [Option.bind_some]
  rw [if_pos (by omega)]
  congr 1

theorem numeral_ev (b : Nat) (hb : 2 ≤ b) (hb2 : b ≤ 36) : ∀ (d n : Nat), n < 2 ^ d → n ≤ 9007199254740992 → ∀ k, d < k → clapref1_Numeral.f k (n : Int) (b : Int) = some ⟨(num b n).toArray⟩ := by
  intro d
  induction d with
  | zero =>
    intro n hn hm k hk
    obtain ⟨k, rfl⟩ : ∃ m, k = m + 1 := ⟨k - 1, by omega⟩
    obtain rfl : n = 0 := by omega
    simp only [clapref1_Numeral.f]
    have e : wrap64 (((0 : Nat) : Int) + 1) = 1 := by unfold wrap64; omega
    rw [if_pos (by omega), if_pos (by omega), e, if_pos (by omega), if_pos (by omega), num_small (by omega)]
    exact congrArg some (dig_at 0 (by omega))
  | succ d ih =>
    intro n hn hm k hk
    obtain ⟨k, rfl⟩ : ∃ m, k = m + 1 := ⟨k - 1, by omega⟩
    by_cases h : n < b
    · simp only [clapref1_Numeral.f]
      have e : wrap64 ((n : Int) + 1) = ((n + 1 : Nat) : Int) := by unfold wrap64; omega
      rw [if_pos (by omega), if_pos (by omega), e, if_pos (by omega), if_pos (by omega), num_small h]
      rw [Int.toNat_natCast, Int.toNat_natCast, dig_at n (by omega)]
    · have h1 : n / b ≤ n / 2 := Nat.div_le_div_left hb (by omega)
      have h2 : n % b < b := Nat.mod_lt _ (by omega)
      have h3 : 2 * (n % b) < n := by have := Nat.div_add_mod n b; have h4 : 1 ≤ n / b := Nat.div_pos (by omega) (by omega); have h5 : b * 1 ≤ b * (n / b) := Nat.mul_le_mul_left b h4; omega
      have hp : 2 ^ (d + 1) = 2 * 2 ^ d := by rw [Nat.pow_succ]; omega
      have h4 := numeral_step k n b (n / b) (n % b) hb (by omega) hm (Int.ofNat_tdiv n b).symm (Int.ofNat_tmod n b).symm (by omega) (by omega)
        (ih (n / b) (by omega) (by omega) k (by omega)) (ih (n % b) (by omega) (by omega) k (by omega))
      rw [num_great hb (by omega), ← num_small (b := b) (n := n % b) h2]
      exact h4


/-! ### the reference's Whole -/
abbrev DIGS : ByteArray := ⟨#[48, 49, 50, 51, 52, 53, 54, 55, 56, 57, 97, 98, 99, 100, 101, 102, 103, 104, 105, 106, 107, 108, 109, 110, 111, 112, 113, 114, 115, 116, 117, 118, 119, 120, 121, 122]⟩

theorem idx_part (b : Nat) (c : UInt8) : ∃ i, strings_IndexByte.f (DIGS.extract 0 b) (c.toNat : Int) = some i ∧ (i < 0 ↔ okd b c = false) := by
  refine ⟨_, rfl, ?_⟩
  rw [Lib.extract_data, toNat_u8, show b - 0 = b by omega, List.drop_zero]
  show Lib.indexByte (DIG.take b) c < 0 ↔ _
  rw [idx_take, idx_val]
  simp [okd]
  omega

theorem whole_loop (s : ByteArray) (b : Nat) (hs : s.size ≤ 140737488351232) : ∀ (d i : Nat), i + d = s.size → ∀ k, d < k →
    clapref1_Whole.l0 k s (DIGS.extract 0 b) (s.size : Int) (i : Int) = some (digs b (s.data.toList.drop i)) := by
  have hl : s.data.toList.length = s.size := rfl
  intro d
  induction d with
  | zero =>
    intro i hi k hk
    obtain ⟨k, rfl⟩ : ∃ m, k = m + 1 := ⟨k - 1, by omega⟩
    simp only [clapref1_Whole.l0]
    rw [if_neg (by omega), List.drop_eq_nil_of_le (by omega)]
    rfl
  | succ d ih =>
    intro i hi k hk
    obtain ⟨k, rfl⟩ : ∃ m, k = m + 1 := ⟨k - 1, by omega⟩
    have h := ih (i + 1) (by omega) k (by omega)
    simp only [clapref1_Whole.l0]
    rw [if_pos (by omega), if_pos (by omega), if_pos (by omega), bt_get s i (by omega), drop_at (show i < s.data.toList.length by omega)]
    obtain ⟨c, hc⟩ : ∃ c, c = s.data.toList.getD i 0 := ⟨_, rfl⟩
    rw [← hc]
    obtain ⟨j, hj, hj2⟩ := idx_part b c
    rw [hj]
    simp only [Option.bind_some]
    rw [wrap_add (by omega) (by omega)]
    show (if j < 0 then some false else clapref1_Whole.l0 k s (DIGS.extract 0 b) (s.size : Int) ((i : Int) + 1)) = some (okd b c && digs b (s.data.toList.drop (i + 1)))
    by_cases h0 : j < 0
    · rw [if_pos h0, hj2.1 h0]; rfl
    · rw [if_neg h0]
      have h1 : okd b c = true := by
        cases e : okd b c
        · exact absurd (hj2.2 e) h0
        · rfl
      rw [h1, Bool.true_and, ← h]
      rfl

/-- The text behind the sign, and whether there is one. -/
abbrev body (s : ByteArray) : List UInt8 := Lib.trimPrefix s.data.toList [45]
abbrev neg (s : ByteArray) : Bool := Lib.hasPrefix s.data.toList [45]

theorem body_eq (s : ByteArray) : body s = s.data.toList ↔ neg s = false := by
  unfold body neg Lib.trimPrefix
  by_cases h : Lib.hasPrefix s.data.toList [45] = true
  · rw [if_pos h, h]
    have : s.data.toList ≠ [] := by
      intro e; rw [e] at h; simp [Lib.hasPrefix] at h
    constructor
    · intro e
      have h2 : s.data.toList.length - 1 = s.data.toList.length := by simpa using congrArg List.length e
      have h3 : 0 < s.data.toList.length := List.length_pos_iff.2 this
      omega
    · intro e; cases e
  · rw [if_neg h]; simp [h]

theorem whole_ev (s : ByteArray) (hs : s.size ≤ 140737488351232) (b : Nat) (hb : b ≤ 36) (k : Nat) (hk : s.size < k) :
    clapref1_Whole.f (k + 1) s (b : Int) = some (!bad (body s) (neg s) && digs b (body s)) := by
  have hle : (body s).length ≤ s.data.toList.length := Lib.trimPrefix_le s.data.toList [45]
  have hl : s.data.toList.length = s.size := rfl
  obtain ⟨t, ht⟩ : ∃ t : ByteArray, t = ⟨(body s).toArray⟩ := ⟨_, rfl⟩
  have htl : t.data.toList = body s := by rw [ht]
  have hts : (t.size : Int) = ((body s).length : Int) := by rw [← htl]; rfl
  have htn : t.size = (body s).length := by rw [← htl]; rfl
  have hj : ∀ v : Bool, clapref1_Whole.j0 (k + 1) (b : Int) t v = some (!v && digs b (body s)) := by
    intro v
    simp only [clapref1_Whole.j0]
    cases v
    · have hw := whole_loop t b (by omega) t.size 0 (by omega) k (by omega)
      rw [if_neg (by simp), if_pos (by omega), if_pos (by omega), Int.toNat_natCast]
      show clapref1_Whole.l0 k t (DIGS.extract 0 b) (t.size : Int) ((0 : Nat) : Int) = _
      rw [hw, htl]; rfl
    · rfl
  have hj2 : ∀ v : Bool, v = bad (body s) (neg s) → clapref1_Whole.j0 (k + 1) (b : Int) t v = some (!bad (body s) (neg s) && digs b (body s)) := by
    intro v hv; rw [hj v, hv]
  unfold clapref1_Whole.f
  have e : strings_TrimPrefix.f s (⟨#[45]⟩ : ByteArray) = some t := by rw [ht]; rfl
  rw [e, Option.bind_some, tl, htl, tl]
  have hb0 : 0 < (body s).length → (bt t 0 == 48) = ((body s).head? == some 48) := by
    intro h
    have := bt_get t 0 (by omega)
    rw [htl] at this
    rw [show ((0 : Int)) = ((0 : Nat) : Int) from rfl, this]
    cases hbs : body s with
    | nil => rw [hbs] at h; simp at h
    | cons c l =>
      show (((c.toNat : Nat) : Int) == 48) = (some c == some 48)
      rw [Bool.eq_iff_iff, beq_iff_eq, beq_iff_eq, Option.some.injEq, ← UInt8.toNat_inj]
      show _ ↔ c.toNat = 48
      omega
  by_cases h1 : body s = []
  · rw [if_pos h1]; exact hj2 _ (by simp [bad, h1])
  · rw [if_neg h1]
    have hpos : 0 < (body s).length := List.length_pos_iff.2 h1
    have hem : (body s).isEmpty = false := by simpa using h1
    have hb0 := hb0 hpos
    by_cases h2 : body s = s.data.toList
    · have hn := (body_eq s).1 h2
      rw [if_pos h2]
      by_cases h3 : (t.size : Int) > 1
      · have h3b : decide (1 < (body s).length) = true := decide_eq_true (by omega)
        rw [if_pos h3, if_pos (by omega)]
        exact hj2 _ (by unfold bad; rw [hem, hn, h3b, hb0]; simp)
      · have h3b : decide (1 < (body s).length) = false := decide_eq_false (by omega)
        rw [if_neg h3]
        exact hj2 _ (by unfold bad; rw [hem, hn, h3b]; simp)
    · have hn : neg s = true := by
        cases e : neg s
        · exact absurd ((body_eq s).2 e) h2
        · rfl
      rw [if_neg h2]
      by_cases h4 : body s = [48]
      · rw [if_pos h4]
        exact hj2 _ (by simp [bad, h4, hn])
      · have h4b : (body s == [48]) = false := by simpa using h4
        rw [if_neg h4]
        by_cases h3 : (t.size : Int) > 1
        · have h3b : decide (1 < (body s).length) = true := decide_eq_true (by omega)
          rw [if_pos h3, if_pos (by omega)]
          exact hj2 _ (by unfold bad; rw [hem, hn, h3b, hb0, h4b]; simp)
        · have h3b : decide (1 < (body s).length) = false := decide_eq_false (by omega)
          rw [if_neg h3]
          exact hj2 _ (by unfold bad; rw [hem, hn, h3b, h4b]; simp)

/-! ### the reference's Amount -/
theorem idx_whole (c : UInt8) : strings_IndexByte.f DIGS (c.toNat : Int) = some (val c) := by
  unfold strings_IndexByte.f
  rw [toNat_u8]
  exact congrArg some (idx_val c)

def amtR (s : ByteArray) : Option Int → Int × Bool
  | none => (0, false)
  | some m => (if neg s then -m else m, true)

theorem first_byte (s : ByteArray) (h : 0 < s.size) : (bt s 0 = 45) ↔ neg s = true := by
  have h1 := bt_get s 0 h
  rw [show ((0 : Int)) = ((0 : Nat) : Int) from rfl, h1]
  unfold neg
  rw [hasPrefix_cons]
  have hl : s.data.toList.length = s.size := rfl
  cases hbs : s.data.toList with
  | nil => rw [hbs] at hl; simp at hl; omega
  | cons c l =>
    show ((c.toNat : Nat) : Int) = 45 ↔ (some c == some (45 : UInt8)) = true
    rw [beq_iff_eq, Option.some.injEq, ← UInt8.toNat_inj]
    show _ ↔ c.toNat = 45
    omega

theorem amount_loop (s : ByteArray) (b : Nat) (hb : b ≤ 36) (hs : s.size ≤ 140737488351232) (h0 : 0 < s.size) : ∀ (d i : Nat) (n : Int), i + d = s.size → 0 ≤ n → n ≤ 9007199254740992 → digs b (s.data.toList.drop i) = true → ∀ k, d < k →
    clapref1_Amount.l0 k s (b : Int) n (s.size : Int) (i : Int) = some (amtR s (amt b (s.data.toList.drop i) n)) := by
  have hl : s.data.toList.length = s.size := rfl
  intro d
  induction d with
  | zero =>
    intro i n hi hn0 hn1 _ k hk
    obtain ⟨k, rfl⟩ : ∃ m, k = m + 1 := ⟨k - 1, by omega⟩
    have e : wrap64 (-n) = -n := by unfold wrap64; omega
    simp only [clapref1_Amount.l0]
    rw [if_neg (by omega), if_pos (by omega), List.drop_eq_nil_of_le (by omega), e]
    by_cases hf : bt s 0 = 45
    · rw [if_pos hf]
      have := (first_byte s h0).1 hf
      simp only [amt, amtR, this]; rfl
    · rw [if_neg hf]
      have h2 : neg s = false := by
        cases e2 : neg s
        · rfl
        · exact absurd ((first_byte s h0).2 e2) hf
      simp only [amt, amtR, h2]; rfl
  | succ d ih =>
    intro i n hi hn0 hn1 hd k hk
    obtain ⟨k, rfl⟩ : ∃ m, k = m + 1 := ⟨k - 1, by omega⟩
    have hdr := drop_at (show i < s.data.toList.length by omega)
    rw [hdr] at hd ⊢
    have hih := ih (i + 1)
    simp only [clapref1_Amount.l0]
    rw [if_pos (by omega), if_pos (by omega), if_pos (by omega), bt_get s i (by omega)]
    obtain ⟨c, hc⟩ : ∃ c, c = s.data.toList.getD i 0 := ⟨_, rfl⟩
    rw [← hc] at hd ⊢
    simp only [digs, List.all_cons, Bool.and_eq_true] at hd
    have hv := val_le c
    have hok : 0 ≤ val c ∧ val c < b := by have := hd.1; simpa [okd] using this
    have h45 : ¬ ((c.toNat : Int) = 45) := by
      intro e
      have : val c = -1 := by unfold val; rw [if_neg (by omega), if_neg (by omega)]
      omega
    have hm0 : 0 ≤ n * (b : Int) := Int.mul_nonneg hn0 (by omega)
    have hm1 : n * (b : Int) ≤ 324259173170675712 := by
      have h1 : n * (b : Int) ≤ 9007199254740992 * (b : Int) := Int.mul_le_mul_of_nonneg_right (by omega) (by omega)
      omega
    have e1 : wrap64 (n * (b : Int)) = n * (b : Int) := by unfold wrap64; omega
    have e2 : wrap64 (n * (b : Int) + val c) = n * (b : Int) + val c := by unfold wrap64; omega
    rw [if_neg h45, idx_whole]
    simp only [Option.bind_some]
    rw [e1, e2, wrap_add (by omega) (by omega), amt]
    by_cases hg : 9007199254740992 < n * (b : Int) + val c
    · rw [if_pos hg, if_pos hg]; rfl
    · rw [if_neg hg, if_neg hg]
      exact hih _ (by omega) (by omega) (by omega) hd.2 k (by omega)

theorem amount_ev (s : ByteArray) (b : Nat) (hb : b ≤ 36) (hs : s.size ≤ 140737488351232) (hw : (!bad (body s) (neg s) && digs b (body s)) = true) (k : Nat) (hk : s.size < k) :
    clapref1_Amount.f (k + 1) s (b : Int) = some (amtR s (amt b (body s) 0)) := by
  have hl : s.data.toList.length = s.size := rfl
  simp only [Bool.and_eq_true, Bool.not_eq_true'] at hw
  obtain ⟨hbad, hd⟩ := hw
  have hne : body s ≠ [] := by intro e; simp [bad, e] at hbad
  have h0 : 0 < s.size := by
    rcases Nat.eq_zero_or_pos s.size with h | h
    · exfalso
      have h1 : s.data.toList = [] := List.eq_nil_of_length_eq_zero (by omega)
      exact hne (by show Lib.trimPrefix s.data.toList [45] = []; rw [h1]; rfl)
    · exact h
  unfold clapref1_Amount.f
  cases hn : neg s
  · have e := (body_eq s).2 hn
    have := amount_loop s b hb hs h0 s.size 0 0 (by omega) (by omega) (by omega) (by rw [List.drop_zero, ← e]; exact hd) (k + 1) (by omega)
    rw [List.drop_zero, ← e] at this
    exact this
  · have hb1 : body s = s.data.toList.drop 1 := by
      show Lib.trimPrefix s.data.toList [45] = _
      unfold Lib.trimPrefix
      rw [if_pos hn]; rfl
    have := amount_loop s b hb hs h0 (s.size - 1) 1 0 (by omega) (by omega) (by omega) (by rw [← hb1]; exact hd) k (by omega)
    rw [← hb1] at this
    simp only [clapref1_Amount.l0]
    rw [if_pos (by omega), if_pos (by omega), if_pos (by omega), if_pos ((first_byte s h0).2 hn), wrap_add (by omega) (by omega)]
    exact this



/-! ### Cut at a byte, Trim and TrimLeft -/
theorem cut_some (b : ByteArray) (hb : b.size ≤ 140737488351232) (c : UInt8) : ∃ (x y : ByteArray) (ok : Bool), strings_Cut.f b (⟨#[c]⟩ : ByteArray) = some (x, y, ok) ∧ x.size + y.size ≤ b.size := by
  have hl : b.data.toList.length = b.size := rfl
  have hc : (⟨#[c]⟩ : ByteArray).size = 1 := rfl
  unfold strings_Cut.f stringslite_Cut.f stringslite_Index.f
  rw [if_pos hc]
  show ∃ (x y : ByteArray) (ok : Bool), _ ∧ _
  have hge := Lib.indexByte_ge b.data.toList c
  have hhd : (⟨#[c]⟩ : ByteArray).data.toList.headD 0 = c := rfl
  rw [hhd]
  by_cases h : Lib.indexByte b.data.toList c = -1
  · rw [h]
    exact ⟨b, ⟨#[]⟩, false, rfl, Nat.le_refl _⟩
  · obtain ⟨o, ho⟩ : ∃ o : Nat, Lib.indexByte b.data.toList c = o := ⟨(Lib.indexByte b.data.toList c).toNat, by omega⟩
    have h1 := (Lib.indexByte_some ho).1
    have h2 : o < b.size := by
      have := (List.getElem?_eq_some_iff.1 h1).1
      omega
    rw [ho]
    simp only [Option.bind_some]
    have hw : wrap64 ((o : Int) + ((⟨#[c]⟩ : ByteArray).size : Int)) = ((o + 1 : Nat) : Int) := by rw [hc]; unfold wrap64; omega
    rw [hw, if_pos (by omega), if_pos (by omega), if_pos (by omega), if_pos (by omega), if_pos (by omega)]
    refine ⟨_, _, _, rfl, ?_⟩
    rw [ByteArray.size_extract, ByteArray.size_extract]
    omega

theorem dropWhile_nil {α : Type} (p : α → Bool) : ∀ l : List α, l.dropWhile p = [] ↔ ∀ x ∈ l, p x = true
  | [] => by simp
  | a :: l => by
    rw [List.dropWhile_cons]
    cases h : p a
    · simp [h]
    · simp only [if_true, List.mem_cons, forall_eq_or_imp, h, true_and]
      exact dropWhile_nil p l

theorem trimS_nil (cs : List UInt8) : ∀ l : List UInt8, Lib.trimS l cs = [] ↔ (l.all fun c => cs.contains c) = true := by
  intro l
  unfold Lib.trimS Lib.trimLeftS Lib.trimRightS
  constructor
  · intro h
    rw [dropWhile_nil] at h
    have h2 : ∀ x ∈ l, cs.contains x = true := by
      intro x hx
      by_cases h3 : ∃ y ∈ l.reverse, cs.contains y = false
      · exfalso
        obtain ⟨y, hy, hyc⟩ := h3
        have : l.reverse.dropWhile (cs.contains ·) ≠ [] := by
          intro e
          rw [dropWhile_nil] at e
          rw [e y hy] at hyc; cases hyc
        obtain ⟨z, r, hzr⟩ := List.exists_cons_of_ne_nil this
        have hz := List.head_dropWhile_not (cs.contains ·) this
        have hz2 : (l.reverse.dropWhile (cs.contains ·)).head this = z := by simp only [hzr, List.head_cons]
        rw [hz2] at hz
        have := h z (by rw [List.mem_reverse, hzr]; simp)
        rw [this] at hz; cases hz
      · cases e : cs.contains x
        · exact absurd ⟨x, by simpa using hx, e⟩ h3
        · rfl
    rw [List.all_eq_true]; exact h2
  · intro h
    rw [List.all_eq_true] at h
    have : l.reverse.dropWhile (cs.contains ·) = [] := by
      rw [dropWhile_nil]
      intro x hx; exact h x (by simpa using hx)
    rw [this]; rfl

abbrev DD : ByteArray := ⟨#[48, 49, 50, 51, 52, 53, 54, 55, 56, 57]⟩

theorem dec_nat : ∀ n : Fin 256, ([48, 49, 50, 51, 52, 53, 54, 55, 56, 57] : List UInt8).contains (UInt8.ofNat n.val) = okd 10 (UInt8.ofNat n.val) := by decide +kernel
theorem dec_okd (c : UInt8) : ([48, 49, 50, 51, 52, 53, 54, 55, 56, 57] : List UInt8).contains c = okd 10 c := by
  have := dec_nat ⟨c.toNat, c.toNat_lt⟩
  simpa using this

/-- Trim(x, "0123456789") == "": are all bytes digits? -/
theorem trim_ev (x : ByteArray) (hx : x.size ≤ 140737488351232) : ∃ t : ByteArray, strings_Trim.f x DD = some t ∧ (t.toList = [] ↔ digs 10 x.data.toList = true) := by
  unfold strings_Trim.f
  rw [if_pos ⟨by omega, by decide, by unfold Ascii; decide⟩]
  refine ⟨_, rfl, ?_⟩
  rw [tl]
  show Lib.trimS x.data.toList [48, 49, 50, 51, 52, 53, 54, 55, 56, 57] = [] ↔ _
  rw [trimS_nil]
  unfold digs
  rw [show (fun c => ([48, 49, 50, 51, 52, 53, 54, 55, 56, 57] : List UInt8).contains c) = okd 10 from funext dec_okd]

/-- Without zeros in front; but "0" for nothing. -/
def strip (l : List UInt8) : List UInt8 := if Lib.trimLeftS l [48] = [] then [48] else Lib.trimLeftS l [48]

theorem trimLeft_ev (x : ByteArray) : strings_TrimLeft.f x (⟨#[48]⟩ : ByteArray) = some ⟨(Lib.trimLeftS x.data.toList [48]).toArray⟩ := by
  unfold strings_TrimLeft.f
  rw [if_pos ⟨by decide, by unfold Ascii; decide⟩]

theorem trimLeft_le (l : List UInt8) : (Lib.trimLeftS l [48]).length ≤ l.length := by
  unfold Lib.trimLeftS
  exact List.Sublist.length_le (List.dropWhile_sublist _)

theorem strip_digs {l : List UInt8} (h : digs 10 l = true) : digs 10 (strip l) = true := by
  unfold strip
  split
  · rfl
  · unfold digs at h ⊢
    rw [List.all_eq_true] at h ⊢
    intro x hx
    exact h x ((List.dropWhile_sublist _).subset hx)

theorem strip_head (l : List UInt8) : strip l = [48] ∨ ∃ c r, strip l = c :: r ∧ c ≠ 48 := by
  unfold strip
  split
  · exact .inl rfl
  · rename_i h
    obtain ⟨c, r, hc⟩ := List.exists_cons_of_ne_nil h
    refine .inr ⟨c, r, hc, ?_⟩
    have := List.head_dropWhile_not (fun x => ([48] : List UInt8).contains x) h
    have e : (Lib.trimLeftS l [48]).head h = c := by simp [hc]
    intro hc48
    rw [show (List.dropWhile (fun x => ([48] : List UInt8).contains x) l).head h = c from e, hc48] at this
    simp at this

theorem strip_ne (l : List UInt8) : strip l ≠ [] := by
  rcases strip_head l with h | ⟨c, r, h, _⟩ <;> rw [h] <;> simp

theorem strip_bad (l : List UInt8) : bad (strip l) false = false := by
  rcases strip_head l with h | ⟨c, r, h, h2⟩
  · rw [h]; rfl
  · rw [h]
    have : (some c == some (48 : UInt8)) = false := by simpa using h2
    unfold bad
    simp only [List.isEmpty_cons, List.head?_cons, this]
    simp

theorem strip_bad_neg (l : List UInt8) : bad (strip l) true = (strip l == [48]) := by
  rcases strip_head l with h | ⟨c, r, h, h2⟩
  · rw [h]; rfl
  · rw [h]
    have : (some c == some (48 : UInt8)) = false := by simpa using h2
    unfold bad
    simp only [List.isEmpty_cons, List.head?_cons, this]
    simp

theorem amt_pos : ∀ (l : List UInt8) (n m : Int), digs 10 l = true → 1 ≤ n → amt 10 l n = some m → 1 ≤ m := by
  intro l
  induction l with
  | nil => intro n m _ hn h; cases h; exact hn
  | cons c l ih =>
    intro n m hd hn h
    simp only [digs, List.all_cons, Bool.and_eq_true] at hd
    have hok : 0 ≤ val c ∧ val c < 10 := by have := hd.1; simpa [okd] using this
    rw [amt] at h
    split at h
    · cases h
    · exact ih _ m hd.2 (by omega) h

theorem val_zero : ∀ n : Fin 256, val (UInt8.ofNat n.val) = 0 → n.val = 48 := by decide +kernel

/-- A numeral without zeros in front is worth 0 only if it is "0". -/
theorem amt_zero {l : List UInt8} (hd : digs 10 (strip l) = true) : amt 10 (strip l) 0 = some 0 ↔ strip l = [48] := by
  constructor
  · intro h
    rcases strip_head l with h1 | ⟨c, r, h1, h2⟩
    · exact h1
    · exfalso
      rw [h1] at h hd
      simp only [digs, List.all_cons, Bool.and_eq_true] at hd
      have hok : 0 ≤ val c ∧ val c < 10 := by have := hd.1; simpa [okd] using this
      rw [amt] at h
      split at h
      · cases h
      · by_cases h3 : val c = 0
        · have h4 := val_zero ⟨c.toNat, c.toNat_lt⟩ (by simpa using h3)
          exact h2 (UInt8.toNat_inj.1 h4)
        · have := amt_pos r _ _ hd.2 (by omega) h
          omega
  · intro h; rw [h]; rfl


/-! ### decimal.ReadFixed and the law's pointless -/
/-- What stands around the point: of a text behind its sign. -/
structure Cutd (b x y : ByteArray) (ok : Bool) : Prop where
  eq : strings_Cut.f b (⟨#[46]⟩ : ByteArray) = some (x, y, ok)
  le : x.size + y.size ≤ b.size

/-- Is it a numeral with p places, but for the sign of zero? -/
def okFix (x y : ByteArray) (ok : Bool) (p : Int) : Bool :=
  ok && decide ((y.size : Int) = p) && !bad x.data.toList false && digs 10 (x.data.toList ++ y.data.toList)

def fixRes (x y : ByteArray) (ng : Bool) : Int × Int :=
  match amt 10 (strip (x.data.toList ++ y.data.toList)) 0 with
  | none => (0, 11)
  | some m => if ng = true ∧ m = 0 then (0, 14) else (if ng then -m else m, 0)

def rfN (x y : ByteArray) (ok ng : Bool) (p : Int) : Int × Int := if okFix x y ok p then fixRes x y ng else (0, 14)

theorem bt0 (x : ByteArray) (h : 0 < x.size) : (bt x 0 == 48) = (x.data.toList.head? == some 48) := by
  have := bt_get x 0 h
  have hl : x.data.toList.length = x.size := rfl
  rw [show ((0 : Int)) = ((0 : Nat) : Int) from rfl, this]
  cases hbs : x.data.toList with
  | nil => rw [hbs] at hl; simp at hl; omega
  | cons c l =>
    show (((c.toNat : Nat) : Int) == 48) = (some c == some 48)
    rw [Bool.eq_iff_iff, beq_iff_eq, beq_iff_eq, Option.some.injEq, ← UInt8.toNat_inj]
    show _ ↔ c.toNat = 48
    omega

theorem read10 (l : List UInt8) (hl : l.length ≤ 80) (hd : digs 10 (strip l) = true) : readN (strip l) 10 = match amt 10 (strip l) 0 with | none => (0, 11) | some m => (m, 0) := by
  have hle : (strip l).length ≤ 80 := by
    unfold strip
    split
    · simp
    · have := trimLeft_le l; omega
  have hng : Lib.hasPrefix (strip l) [45] = false := by
    rw [hasPrefix_cons]
    obtain ⟨c, r, h⟩ := List.exists_cons_of_ne_nil (strip_ne l)
    rw [h] at hd ⊢
    simp only [digs, List.all_cons, Bool.and_eq_true] at hd
    have hok : 0 ≤ val c ∧ val c < 10 := by have := hd.1; simpa [okd] using this
    rw [List.head?_cons]
    cases e : (some c == some (45 : UInt8))
    · rfl
    · exfalso
      have e2 : c = 45 := by simpa using e
      rw [e2] at hok
      have : val 45 = -1 := by decide
      omega
  have htp : Lib.trimPrefix (strip l) [45] = strip l := by unfold Lib.trimPrefix; rw [hng]; rfl
  unfold readN
  rw [if_neg (by omega), if_neg (by omega), htp, hng, readBody_eq, strip_bad, hd]
  cases amt 10 (strip l) 0 <;> rfl

theorem amt_le : ∀ (l : List UInt8) (n m : Int), digs 10 l = true → 0 ≤ n → n ≤ 9007199254740992 → amt 10 l n = some m → 0 ≤ m ∧ m ≤ 9007199254740992 := by
  intro l
  induction l with
  | nil => intro n m _ h0 h1 h; cases h; exact ⟨h0, h1⟩
  | cons c l ih =>
    intro n m hd h0 h1 h
    simp only [digs, List.all_cons, Bool.and_eq_true] at hd
    have hok : 0 ≤ val c ∧ val c < 10 := by have := hd.1; simpa [okd] using this
    rw [amt] at h
    split at h
    · cases h
    · exact ih _ m hd.2 (by omega) (by omega) h

theorem rf_j2 (x y : ByteArray) (ng : Bool) (hs : x.size + y.size ≤ 80) (k : Nat) :
    decimal_ReadFixed.j2 (k + 2) ng x y ⟨(strip (x.data.toList ++ y.data.toList)).toArray⟩ = some (if digs 10 (x.data.toList ++ y.data.toList) = true then fixRes x y ng else (0, 14)) := by
  have hsz : (x ++ y).size = x.size + y.size := ByteArray.size_append ..
  obtain ⟨t, ht, ht2⟩ := trim_ev (x ++ y) (by omega)
  have hdata : (x ++ y).data.toList = x.data.toList ++ y.data.toList := by rw [ByteArray.data_append, Array.toList_append]
  rw [hdata] at ht2
  simp only [decimal_ReadFixed.j2]
  have hr : decimal_Read.f (⟨(strip (x.data.toList ++ y.data.toList)).toArray⟩ : ByteArray) 10 = some (readN (strip (x.data.toList ++ y.data.toList)) 10) := rfl
  rw [hr, Option.bind_some, if_pos (by omega), ht, Option.bind_some]
  have hlen : (x.data.toList ++ y.data.toList).length ≤ 80 := by rw [List.length_append]; exact hs
  cases hd : digs 10 (x.data.toList ++ y.data.toList)
  · rw [hd] at ht2
    rw [if_neg (by rw [ht2]; simp), if_neg (by simp)]
    simp only [decimal_ReadFixed.j3]
    simp
  · have hds := strip_digs hd
    rw [hd] at ht2
    rw [if_pos (ht2.2 rfl), if_pos rfl, read10 _ hlen hds]
    unfold fixRes
    cases ha : amt 10 (strip (x.data.toList ++ y.data.toList)) 0 with
    | none =>
      simp only [decimal_ReadFixed.j3]
      cases ng <;> simp
    | some m =>
      have hm := amt_le _ _ _ hds (by omega) (by omega) ha
      have e : wrap64 (-m) = -m := by unfold wrap64; omega
      simp only [decimal_ReadFixed.j3, e]
      cases ng
      · simp
      · by_cases hm0 : m = 0
        · simp [hm0]
        · simp [hm0]

theorem rf_j1 (x y : ByteArray) (ng v : Bool) (hs : x.size + y.size ≤ 80) (k : Nat) :
    decimal_ReadFixed.j1 (k + 3) ng x y v = some (if (!v && digs 10 (x.data.toList ++ y.data.toList)) = true then fixRes x y ng else (0, 14)) := by
  have hdata : (x ++ y).data.toList = x.data.toList ++ y.data.toList := by rw [ByteArray.data_append, Array.toList_append]
  simp only [decimal_ReadFixed.j1]
  cases v
  · rw [if_neg (by simp), if_pos (by omega), trimLeft_ev, Option.bind_some, tl, hdata]
    have hj := rf_j2 x y ng hs k
    unfold strip at hj
    show (if Lib.trimLeftS (x.data.toList ++ y.data.toList) [48] = [] then _ else _) = _
    by_cases h : Lib.trimLeftS (x.data.toList ++ y.data.toList) [48] = []
    · rw [if_pos h] at hj ⊢
      simpa using hj
    · rw [if_neg h] at hj ⊢
      simpa using hj
  · rfl

theorem rf_ev (s : ByteArray) (p : Int) (hs : s.size ≤ 80) (hp : 1 ≤ p) (hp2 : p ≤ 15) (x y : ByteArray) (ok : Bool) (hc : Cutd ⟨(body s).toArray⟩ x y ok) (k : Nat) :
    decimal_ReadFixed.f (k + 4) s p = some (rfN x y ok (neg s) p) := by
  have hl : x.data.toList.length = x.size := rfl
  have hbl : (⟨(body s).toArray⟩ : ByteArray).size ≤ 80 := by
    have : (body s).length ≤ s.data.toList.length := Lib.trimPrefix_le s.data.toList [45]
    have h2 : s.data.toList.length = s.size := rfl
    show (body s).toArray.size ≤ 80
    simp only [List.size_toArray]; omega
  have hle := hc.le
  unfold decimal_ReadFixed.f
  rw [if_neg (by omega)]
  simp only [decimal_ReadFixed.j0]
  have hcp : strings_CutPrefix.f s (⟨#[45]⟩ : ByteArray) = some (⟨(body s).toArray⟩, neg s) := rfl
  rw [if_neg (by simp; omega), if_neg (by omega), if_neg (by omega), hcp, Option.bind_some, hc.eq, Option.bind_some]
  have hj1 := fun v => rf_j1 x y (neg s) v (by omega) k
  have hfin : ∀ v : Bool, (!v && digs 10 (x.data.toList ++ y.data.toList)) = okFix x y ok p → decimal_ReadFixed.j1 (k + 3) (neg s) x y v = some (rfN x y ok (neg s) p) := by
    intro v hv
    rw [hj1 v, hv]; rfl
  cases ok
  · rw [if_neg (by simp)]
    exact hfin true (by simp [okFix])
  · rw [if_pos rfl]
    by_cases h1 : (y.size : Int) = p
    · rw [if_pos h1, tl]
      by_cases h2 : x.data.toList = []
      · rw [if_pos h2]
        exact hfin true (by simp [okFix, bad, h2])
      · have hpos : 0 < x.size := by
          have := List.length_pos_iff.2 h2
          omega
        have hem : x.data.toList.isEmpty = false := by simpa using h2
        rw [if_neg h2]
        by_cases h3 : (x.size : Int) > 1
        · have h3b : decide (1 < x.data.toList.length) = true := decide_eq_true (by omega)
          rw [if_pos h3, if_pos (show 0 < (x.size : Int) by omega)]
          exact hfin _ (by unfold okFix bad; rw [hem, h3b, bt0 x hpos, decide_eq_true h1]; simp)
        · have h3b : decide (1 < x.data.toList.length) = false := decide_eq_false (by omega)
          rw [if_neg h3]
          exact hfin _ (by unfold okFix bad; rw [hem, h3b, decide_eq_true h1]; simp)
    · rw [if_neg h1]
      exact hfin true (by unfold okFix; rw [decide_eq_false h1]; simp)


/-! ### the law's pointless -/
theorem digs_append (a b : List UInt8) : digs 10 (a ++ b) = (digs 10 a && digs 10 b) := by unfold digs; rw [List.all_append]

theorem digs_neg {x : ByteArray} (h : neg x = true) : digs 10 x.data.toList = false := by
  have h2 : Lib.hasPrefix x.data.toList [45] = true := h
  rw [hasPrefix_cons] at h2
  cases hx : x.data.toList with
  | nil => rw [hx] at h2; simp at h2
  | cons c l =>
    rw [hx] at h2
    have e : c = 45 := by simpa using h2
    rw [e]
    have : okd 10 45 = false := by decide
    simp [digs, this]

def ptAll (x y : ByteArray) (ng : Bool) : List UInt8 := if ng then 45 :: strip (x.data.toList ++ y.data.toList) else strip (x.data.toList ++ y.data.toList)

theorem pt_j0 (s x y : ByteArray) (hs : x.size + y.size ≤ 140737488351232) (v : Bool) (hd : v = false → digs 10 (x.data.toList ++ y.data.toList) = true) (k : Nat) :
    ∃ r : ByteArray × Bool, claplaw1_pointless.j0 (k + 1) s ⟨(body s).toArray⟩ x y v = some r ∧
      r = (if v then ((⟨#[]⟩ : ByteArray), false) else (⟨(ptAll x y (neg s)).toArray⟩, !(neg s && strip (x.data.toList ++ y.data.toList) == [48]))) := by
  have hdata : (x ++ y).data.toList = x.data.toList ++ y.data.toList := by rw [ByteArray.data_append, Array.toList_append]
  have hbs : (⟨(body s).toArray⟩ : ByteArray).data.toList = body s := rfl
  have hls : (Lib.trimLeftS (x.data.toList ++ y.data.toList) [48]).length ≤ x.size + y.size := by
    have := trimLeft_le (x.data.toList ++ y.data.toList)
    rw [List.length_append] at this
    exact this
  simp only [claplaw1_pointless.j0]
  cases v
  · rw [if_neg (by simp), if_pos (by omega), trimLeft_ev, Option.bind_some, tl, tl, tl, hdata, hbs]
    show ∃ r, (if Lib.trimLeftS (x.data.toList ++ y.data.toList) [48] = [] then _ else _) = _ ∧ _
    by_cases h : Lib.trimLeftS (x.data.toList ++ y.data.toList) [48] = []
    · have hst : strip (x.data.toList ++ y.data.toList) = [48] := by unfold strip; rw [if_pos h]
      rw [if_pos h]
      by_cases h2 : body s = s.data.toList
      · have hn := (body_eq s).1 h2
        rw [if_pos h2]
        refine ⟨_, rfl, ?_⟩
        unfold ptAll
        rw [hst, hn]; rfl
      · have hn : neg s = true := by
          cases e : neg s
          · exact absurd ((body_eq s).2 e) h2
          · rfl
        rw [if_neg h2, if_pos (by omega)]
        refine ⟨_, rfl, ?_⟩
        unfold ptAll
        rw [hst, hn, tl]; rfl
    · have hst : strip (x.data.toList ++ y.data.toList) = Lib.trimLeftS (x.data.toList ++ y.data.toList) [48] := by unfold strip; rw [if_neg h]
      rw [if_neg h]
      generalize hz : Lib.trimLeftS (x.data.toList ++ y.data.toList) [48] = z at hst hls ⊢
      have hzd : digs 10 z = true := by rw [← hst]; exact strip_digs (hd rfl)
      have hne : (z != [45, 48]) = true := by
        rw [bne_iff_ne]
        intro e
        rw [e] at hzd
        revert hzd; decide
      by_cases h2 : body s = s.data.toList
      · have hn := (body_eq s).1 h2
        rw [if_pos h2]
        refine ⟨_, rfl, ?_⟩
        unfold ptAll
        rw [hst, hn]
        show (_, (z != [45, 48])) = _
        rw [hne]; rfl
      · have hn : neg s = true := by
          cases e : neg s
          · exact absurd ((body_eq s).2 e) h2
          · rfl
        have hzs : (⟨z.toArray⟩ : ByteArray).size = z.length := by show z.toArray.size = _; simp
        rw [if_neg h2, if_pos (by omega)]
        refine ⟨_, rfl, ?_⟩
        unfold ptAll
        rw [hst, hn, tl]
        have e1 : ((⟨#[45]⟩ : ByteArray) ++ ⟨z.toArray⟩).data.toList = 45 :: z := by rw [ByteArray.data_append, Array.toList_append]; rfl
        have e2 : ((⟨#[45]⟩ : ByteArray) ++ ⟨z.toArray⟩) = ⟨(45 :: z).toArray⟩ := Go.WideShapes.bytes_inj e1
        rw [e2]
        show (_, ((45 :: z) != [45, 48])) = _
        have e3 : ((45 :: z) != [45, 48]) = !(z == [48]) := by
          rw [Bool.eq_iff_iff]; simp
        rw [e3]; rfl
  · exact ⟨_, rfl, rfl⟩

theorem whole_okfix {x y : ByteArray} (ok : Bool) (p : Int) :
    okFix x y ok p = (ok && decide ((y.size : Int) = p) && digs 10 y.data.toList && ((!bad (body x) (neg x) && digs 10 (body x)) && !neg x)) := by
  unfold okFix
  rw [digs_append]
  cases hn : neg x
  · rw [(body_eq x).2 hn]
    cases ok <;> cases decide ((y.size : Int) = p) <;> cases bad x.data.toList false <;> cases digs 10 x.data.toList <;> cases digs 10 y.data.toList <;> rfl
  · rw [digs_neg hn]; simp

theorem pt_ev (s : ByteArray) (p : Int) (hs : s.size ≤ 140737488351232) (hp : 1 ≤ p) (x y : ByteArray) (ok : Bool) (hc : Cutd ⟨(body s).toArray⟩ x y ok) (k : Nat) (hk : s.size < k) :
    claplaw1_pointless.f (k + 1) s p = some (if okFix x y ok p then (⟨(ptAll x y (neg s)).toArray⟩, !(neg s && strip (x.data.toList ++ y.data.toList) == [48])) else ((⟨#[]⟩ : ByteArray), false)) := by
  have hl : x.data.toList.length = x.size := rfl
  have hbl : (⟨(body s).toArray⟩ : ByteArray).size ≤ s.size := by
    have : (body s).length ≤ s.data.toList.length := Lib.trimPrefix_le s.data.toList [45]
    have h2 : s.data.toList.length = s.size := rfl
    show (body s).toArray.size ≤ s.size
    simp only [List.size_toArray]; omega
  have hle := hc.le
  unfold claplaw1_pointless.f
  have htp : strings_TrimPrefix.f s (⟨#[45]⟩ : ByteArray) = some ⟨(body s).toArray⟩ := rfl
  rw [if_neg (by omega), htp, Option.bind_some, hc.eq, Option.bind_some]
  have hj : ∀ v : Bool, (!v) = okFix x y ok p → claplaw1_pointless.j0 (k + 1) s ⟨(body s).toArray⟩ x y v = some (if okFix x y ok p then (⟨(ptAll x y (neg s)).toArray⟩, !(neg s && strip (x.data.toList ++ y.data.toList) == [48])) else ((⟨#[]⟩ : ByteArray), false)) := by
    intro v hv
    obtain ⟨r, h1, h2⟩ := pt_j0 s x y (by omega) v (fun e => by
      rw [e] at hv
      have : okFix x y ok p = true := hv.symm
      unfold okFix at this
      simp only [Bool.and_eq_true] at this
      exact this.2) k
    rw [h1, h2, ← hv]
    cases v <;> rfl
  cases ok
  · rw [if_neg (by simp)]
    exact hj true (by simp [okFix])
  · rw [if_pos rfl]
    by_cases h1 : (y.size : Int) = p
    · obtain ⟨t, ht, ht2⟩ := trim_ev y (by omega)
      rw [if_pos h1, ht, Option.bind_some]
      cases hdy : digs 10 y.data.toList
      · rw [hdy] at ht2
        rw [if_neg (by rw [ht2]; simp)]
        exact hj true (by rw [whole_okfix, hdy]; simp)
      · rw [hdy] at ht2
        have hw := whole_ev x (by omega) 10 (by omega) k (by omega)
        rw [if_pos (ht2.2 rfl)]
        rw [show ((10 : Nat) : Int) = 10 from rfl] at hw
        rw [hw, Option.bind_some]
        cases hww : (!bad (body x) (neg x) && digs 10 (body x))
        · rw [if_neg (by simp)]
          exact hj true (by rw [whole_okfix, hww]; simp)
        · have hx0 : 0 < x.size := by
            rcases Nat.eq_zero_or_pos x.size with h | h
            · exfalso
              have h2 : x.data.toList = [] := List.eq_nil_of_length_eq_zero (by omega)
              have h3 : body x = [] := by show Lib.trimPrefix x.data.toList [45] = []; rw [h2]; rfl
              rw [h3] at hww
              simp [bad] at hww
            · exact h
          rw [if_pos rfl, if_pos (show 0 < (x.size : Int) by omega)]
          refine hj _ ?_
          rw [whole_okfix, hdy, hww, decide_eq_true h1]
          have hf := first_byte x hx0
          cases hnx : neg x
          · rw [hnx] at hf
            have : (bt x 0 == 45) = false := by rw [beq_eq_false_iff_ne]; intro e; exact absurd (hf.1 e) (by simp)
            rw [this]; rfl
          · have : (bt x 0 == 45) = true := by rw [beq_iff_eq]; exact hf.2 hnx
            rw [this]; rfl
    · rw [if_neg h1]
      exact hj true (by unfold okFix; rw [decide_eq_false h1]; simp)

/-- The numeral that pointless gives, read. -/
theorem pt_amount (x y : ByteArray) (ng : Bool) (hs : x.size + y.size ≤ 80) (hd : digs 10 (x.data.toList ++ y.data.toList) = true) (hok : (ng && strip (x.data.toList ++ y.data.toList) == [48]) = false) (k : Nat) (hk : 90 < k) :
    clapref1_Amount.f (k + 1) ⟨(ptAll x y ng).toArray⟩ 10 = some (match amt 10 (strip (x.data.toList ++ y.data.toList)) 0 with | none => (0, false) | some m => (if ng then -m else m, true)) := by
  have hds := strip_digs hd
  obtain ⟨l, hl⟩ : ∃ l, l = strip (x.data.toList ++ y.data.toList) := ⟨_, rfl⟩
  have hll : l.length ≤ 80 := by
    rw [hl]; unfold strip
    split
    · simp
    · have := trimLeft_le (x.data.toList ++ y.data.toList)
      rw [List.length_append] at this
      have h2 : x.data.toList.length = x.size := rfl
      have h3 : y.data.toList.length = y.size := rfl
      omega
  have hb1 := strip_bad (x.data.toList ++ y.data.toList)
  have hb2 := strip_bad_neg (x.data.toList ++ y.data.toList)
  have hne := strip_ne (x.data.toList ++ y.data.toList)
  rw [← hl] at hds hb1 hb2 hne hok ⊢
  have hdata : (⟨(ptAll x y ng).toArray⟩ : ByteArray).data.toList = if ng then 45 :: l else l := by show ptAll x y ng = _; unfold ptAll; rw [← hl]
  have hhd : Lib.hasPrefix l [45] = false := by
    rw [hasPrefix_cons]
    obtain ⟨c, r, h⟩ := List.exists_cons_of_ne_nil hne
    rw [h] at hds ⊢
    simp only [digs, List.all_cons, Bool.and_eq_true] at hds
    have hok : 0 ≤ val c ∧ val c < 10 := by have := hds.1; simpa [okd] using this
    rw [List.head?_cons]
    cases e : (some c == some (45 : UInt8))
    · rfl
    · exfalso
      have e2 : c = 45 := by simpa using e
      rw [e2] at hok
      have : val 45 = -1 := by decide
      omega
  have hneg : neg (⟨(ptAll x y ng).toArray⟩ : ByteArray) = ng := by
    show Lib.hasPrefix (⟨(ptAll x y ng).toArray⟩ : ByteArray).data.toList [45] = ng
    rw [hdata]
    cases ng
    · exact hhd
    · rfl
  have hbody : body (⟨(ptAll x y ng).toArray⟩ : ByteArray) = l := by
    show Lib.trimPrefix (⟨(ptAll x y ng).toArray⟩ : ByteArray).data.toList [45] = l
    rw [hdata]
    cases ng
    · show Lib.trimPrefix l [45] = l
      unfold Lib.trimPrefix; rw [hhd]; rfl
    · rfl
  have hsz : (⟨(ptAll x y ng).toArray⟩ : ByteArray).size ≤ 81 := by
    have : (⟨(ptAll x y ng).toArray⟩ : ByteArray).size = (⟨(ptAll x y ng).toArray⟩ : ByteArray).data.toList.length := rfl
    rw [this, hdata]
    cases ng
    · show l.length ≤ 81; omega
    · show (45 :: l).length ≤ 81; simp; omega
  have := amount_ev (⟨(ptAll x y ng).toArray⟩ : ByteArray) 10 (by omega) (by omega) (by
    rw [hbody, hneg, show ((10 : Nat) : Int) = 10 from rfl, hds]
    cases ng
    · rw [hb1]; rfl
    · rw [hb2]
      have h3 : (l == [48]) = false := by simpa using hok
      rw [h3]; rfl) k (by omega)
  rw [show ((10 : Nat) : Int) = 10 from rfl, hbody] at this
  rw [this]
  unfold amtR
  rw [hneg]


/-! ### the reference's Pointed -/
def ptEnd (n p : Int) (t : ByteArray) : ByteArray :=
  (if n < 0 then ⟨#[45]⟩ else ⟨#[]⟩) ++ (if 0 < p then ((t.extract 0 (t.size - p.toNat)) ++ ⟨#[46]⟩) ++ t.extract (t.size - p.toNat) t.size else t)

theorem nil_append (t : ByteArray) : (⟨#[]⟩ : ByteArray) ++ t = t := Go.WideShapes.bytes_inj (by rw [ByteArray.data_append, Array.toList_append]; rfl)

theorem pointed_end (n : Int) (p : Nat) (hp : p ≤ 15) (t : ByteArray) (ht : t.size ≤ 100) (hpt : p < t.size) (k : Nat) : clapref1_Pointed.l0 (k + 1) n (p : Int) t = some (ptEnd n p t) := by
  have e1 : wrap64 ((p : Int) + 1) = ((p + 1 : Nat) : Int) := by unfold wrap64; omega
  have e2 : wrap64 ((t.size : Int) - (p : Int)) = ((t.size - p : Nat) : Int) := by unfold wrap64; omega
  have s1 : (t.extract 0 (t.size - p)).size = t.size - p := by rw [ByteArray.size_extract]; omega
  have s2 : (t.extract (t.size - p) t.size).size = p := by rw [ByteArray.size_extract]; omega
  have s3 : ((t.extract 0 (t.size - p)) ++ (⟨#[46]⟩ : ByteArray)).size = t.size - p + 1 := by rw [ByteArray.size_append, s1]; rfl
  have s4 : (((t.extract 0 (t.size - p)) ++ (⟨#[46]⟩ : ByteArray)) ++ t.extract (t.size - p) t.size).size = t.size + 1 := by rw [ByteArray.size_append, s3, s2]; omega
  simp only [clapref1_Pointed.l0]
  rw [e1, if_neg (by omega)]
  unfold ptEnd
  rw [Int.toNat_natCast]
  by_cases h : (p : Int) > 0
  · rw [if_pos h, if_pos h, e2, if_pos (by omega), if_pos (by omega), Int.toNat_natCast, s1, if_pos (by omega), s3, s2, if_pos (by omega), s4]
    by_cases hn : n < 0
    · rw [if_pos hn, if_pos hn, if_pos (by omega)]
    · rw [if_neg hn, if_neg hn, nil_append]
  · rw [if_neg h, if_neg h]
    by_cases hn : n < 0
    · rw [if_pos hn, if_pos hn, if_pos (by omega)]
    · rw [if_neg hn, if_neg hn, nil_append]

theorem zero_append (c : Nat) (d : ByteArray) : (⟨(List.replicate c (48 : UInt8)).toArray⟩ : ByteArray) ++ ((⟨#[48]⟩ : ByteArray) ++ d) = ⟨(List.replicate (c + 1) (48 : UInt8)).toArray⟩ ++ d := by
  apply Go.WideShapes.bytes_inj
  rw [ByteArray.data_append, ByteArray.data_append, ByteArray.data_append, Array.toList_append, Array.toList_append, Array.toList_append]
  show List.replicate c 48 ++ ([48] ++ d.data.toList) = List.replicate (c + 1) 48 ++ d.data.toList
  rw [List.replicate_succ', List.append_assoc]

theorem zeros_size (c : Nat) : (⟨(List.replicate c (48 : UInt8)).toArray⟩ : ByteArray).size = c := by
  show (List.replicate c (48 : UInt8)).toArray.size = c
  simp

theorem pointed_loop (n : Int) (p : Nat) (hp : p ≤ 15) : ∀ (c : Nat) (d : ByteArray), d.size ≤ 60 → c + d.size = p + 1 → ∀ k, c < k → clapref1_Pointed.l0 k n (p : Int) d = some (ptEnd n p (⟨(List.replicate c (48 : UInt8)).toArray⟩ ++ d)) := by
  intro c
  induction c with
  | zero =>
    intro d hd hc k hk
    obtain ⟨k, rfl⟩ : ∃ m, k = m + 1 := ⟨k - 1, by omega⟩
    rw [pointed_end n p hp d (by omega) (by omega)]
    exact congrArg (fun z => some (ptEnd n p z)) (nil_append d).symm
  | succ c ih =>
    intro d hd hc k hk
    obtain ⟨k, rfl⟩ : ∃ m, k = m + 1 := ⟨k - 1, by omega⟩
    have e1 : wrap64 ((p : Int) + 1) = ((p + 1 : Nat) : Int) := by unfold wrap64; omega
    have s1 : ((⟨#[48]⟩ : ByteArray) ++ d).size = d.size + 1 := by rw [ByteArray.size_append]; show 1 + d.size = _; omega
    have := ih ((⟨#[48]⟩ : ByteArray) ++ d) (by omega) (by omega) k (by omega)
    rw [zero_append] at this
    simp only [clapref1_Pointed.l0]
    rw [e1, if_pos (by omega), if_pos (by omega)]
    exact this

theorem join_end (n : Int) (p : Nat) (hp : 1 ≤ p) (t : ByteArray) (m : Nat) (hm : t.size - p = m) : fixJoin (if n < 0 then ⟨#[45]⟩ else ⟨#[]⟩) t m = ptEnd n p t := by
  unfold fixJoin ptEnd
  rw [if_pos (show 0 < (p : Int) by omega), Int.toNat_natCast, hm]
  rw [ByteArray.append_assoc, ByteArray.append_assoc, ByteArray.append_assoc]

theorem pointed_ev (n p : Int) (h0 : ¬ (p < 0 ∨ 15 < p)) (h1 : ¬ (n < -9007199254740992 ∨ 9007199254740992 < n)) (k : Nat) (hk : 100 < k) : clapref1_Pointed.f k n p = some (fixedN n p).1 := by
  obtain ⟨q, rfl⟩ := Int.eq_ofNat_of_zero_le (show 0 ≤ p by omega)
  have e : wrap64 (-n) = -n := by unfold wrap64; omega
  have hmx : mx n (wrap64 (-n)) = (n.natAbs : Int) := by rw [e]; unfold mx; split <;> omega
  have hnum := numeral_ev 10 (by omega) (by omega) 54 n.natAbs (by omega) (by omega) k (by omega)
  rw [show ((10 : Nat) : Int) = 10 from rfl] at hnum
  have hsz : (⟨(num 10 n.natAbs).toArray⟩ : ByteArray).size = (num 10 n.natAbs).length := by show (num 10 n.natAbs).toArray.size = _; simp
  have hlen := num_length_le (b := 10) (by omega) 54 n.natAbs (by omega)
  have hpos : 0 < (num 10 n.natAbs).length := List.length_pos_iff.2 (num_ne_nil _ _)
  unfold clapref1_Pointed.f
  rw [hmx, hnum, Option.bind_some]
  unfold fixedN
  rw [if_neg h0, if_neg h1, Int.toNat_natCast]
  by_cases hq0 : q = 0
  · subst hq0
    obtain ⟨k, rfl⟩ : ∃ m, k = m + 1 := ⟨k - 1, by omega⟩
    rw [if_pos (show ((0 : Nat) : Int) = 0 from rfl), pointed_end n 0 (by omega) _ (by omega) (by omega)]
    rfl
  · rw [if_neg (show ¬ ((q : Nat) : Int) = 0 by omega)]
    by_cases hq : (num 10 n.natAbs).length ≤ q
    · rw [if_pos hq, pointed_loop n q (by omega) (q + 1 - (num 10 n.natAbs).length) _ (by omega) (by omega) k (by omega)]
      rw [join_end n q (by omega) _ 1 (by rw [ByteArray.size_append, zeros_size, hsz]; omega)]
    · obtain ⟨k, rfl⟩ : ∃ m, k = m + 1 := ⟨k - 1, by omega⟩
      rw [if_neg hq, pointed_end n q (by omega) _ (by omega) (by omega)]
      rw [join_end n q (by omega) _ _ (by rw [hsz])]


/-! ### the law -/
theorem cutd (s : ByteArray) (hs : s.size ≤ 140737488351232) : ∃ x y ok, Cutd ⟨(body s).toArray⟩ x y ok ∧ x.size + y.size ≤ s.size := by
  have hbl : (⟨(body s).toArray⟩ : ByteArray).size ≤ s.size := by
    have : (body s).length ≤ s.data.toList.length := Lib.trimPrefix_le s.data.toList [45]
    have h2 : s.data.toList.length = s.size := rfl
    show (body s).toArray.size ≤ s.size
    simp only [List.size_toArray]; omega
  obtain ⟨x, y, ok, h1, h2⟩ := cut_some ⟨(body s).toArray⟩ (by omega) 46
  exact ⟨x, y, ok, ⟨h1, h2⟩, by omega⟩

theorem tail_eq (x : ByteArray) (e : Int) (a b : Int) : (if x.toList = x.toList then (if e = e then (if a = a then some (b == b) else some false) else some false) else some false) = some true := by simp

theorem law_tail (p : Nat) (hp : p ≤ 15) (s : ByteArray) (hs : s.size ≤ 140737488351232) (x : ByteArray) (e : Int) (K : Nat) (hK : s.size + 100 < K) (m : Int × Int)
    (hm : decimal_ReadFixed.f (K + 3) s (p : Int) = some m) : claplaw1_DecimalPoints.j1 (K + 2) (p : Int) s x e m.1 m.2 x e = some true := by
  have hl : s.data.toList.length = s.size := rfl
  simp only [claplaw1_DecimalPoints.j1]
  rw [numbered_ev]
  by_cases hbig : 80 < s.size
  · have hm2 : m = (0, 2) := by
      unfold decimal_ReadFixed.f at hm
      rw [if_neg (by omega)] at hm
      simp only [decimal_ReadFixed.j0] at hm
      rw [if_neg (by simp; omega), if_pos (by omega)] at hm
      exact (Option.some.inj hm).symm
    have hpt : ∃ r, claplaw1_pointless.f (K + 1) s (p : Int) = some r := by
      by_cases h0 : p = 0
      · subst h0
        have hw := whole_ev s hs 10 (by omega) K (by omega)
        rw [show ((10 : Nat) : Int) = 10 from rfl] at hw
        unfold claplaw1_pointless.f
        rw [if_pos (show ((0 : Nat) : Int) = 0 from rfl), hw]
        exact ⟨_, rfl⟩
      · obtain ⟨x, y, ok, hc, _⟩ := cutd s hs
        exact ⟨_, pt_ev s p hs (by omega) x y ok hc K (by omega)⟩
    obtain ⟨r, hr⟩ := hpt
    rw [hr, Option.bind_some, if_pos (show (s.size : Int) > 80 by omega), hm2]
    simp
  · by_cases h0 : p = 0
    · subst h0
      have hm2 : m = readN s.data.toList 10 := by
        unfold decimal_ReadFixed.f at hm
        rw [if_neg (by omega)] at hm
        simp only [decimal_ReadFixed.j0] at hm
        rw [if_neg (by simp), if_neg (by omega), if_pos (show ((0 : Nat) : Int) = 0 from rfl)] at hm
        exact (Option.some.inj hm).symm
      have hw := whole_ev s hs 10 (by omega) K (by omega)
      rw [show ((10 : Nat) : Int) = 10 from rfl] at hw
      have hpt : claplaw1_pointless.f (K + 1) s ((0 : Nat) : Int) = some (s, !bad (body s) (neg s) && digs 10 (body s)) := by
        unfold claplaw1_pointless.f
        rw [if_pos (show ((0 : Nat) : Int) = 0 from rfl), hw]; rfl
      have hr : readN s.data.toList 10 = readBody 10 (body s) (neg s) := by
        unfold readN; rw [if_neg (by omega), if_neg (by omega)]
      rw [hpt, Option.bind_some, if_neg (show ¬ (s.size : Int) > 80 by omega), hm2, hr, readBody_eq]
      cases hww : (!bad (body s) (neg s) && digs 10 (body s))
      · have h3 : (bad (body s) (neg s) || !digs 10 (body s)) = true := by
          cases h4 : bad (body s) (neg s) <;> cases h5 : digs 10 (body s) <;> simp_all
        rw [if_neg (by simp), if_pos h3]
        simp
      · have h3 : ¬ (bad (body s) (neg s) || !digs 10 (body s)) = true := by
          cases h4 : bad (body s) (neg s) <;> cases h5 : digs 10 (body s) <;> simp_all
        have ha := amount_ev s 10 (by omega) hs (by rw [show ((10 : Nat) : Int) = 10 from rfl]; exact hww) K (by omega)
        rw [show ((10 : Nat) : Int) = 10 from rfl] at ha
        rw [if_pos rfl, if_neg h3, ha]
        cases amt 10 (body s) 0 with
        | none => simp [amtR]
        | some m => simp [amtR]
    · obtain ⟨u, v, ok, hc, hle⟩ := cutd s hs
      have hm2 : m = rfN u v ok (neg s) p := by
        have := rf_ev s p (by omega) (by omega) (by omega) u v ok hc (K - 1)
        rw [show K - 1 + 4 = K + 3 by omega, hm] at this
        exact Option.some.inj this
      rw [pt_ev s p hs (by omega) u v ok hc K (by omega), Option.bind_some, if_neg (show ¬ (s.size : Int) > 80 by omega), hm2]
      unfold rfN
      cases hok : okFix u v ok p
      · rw [if_neg (by simp)]
        simp
      · have hdd : digs 10 (u.data.toList ++ v.data.toList) = true := by
          unfold okFix at hok
          simp only [Bool.and_eq_true] at hok
          exact hok.2
        have hds := strip_digs hdd
        simp only [if_true]
        cases hz : (neg s && strip (u.data.toList ++ v.data.toList) == [48])
        · have ha := pt_amount u v (neg s) (by omega) hdd hz K (by omega)
          rw [if_pos (by simp), ha]
          unfold fixRes
          cases hamt : amt 10 (strip (u.data.toList ++ v.data.toList)) 0 with
          | none => simp
          | some m =>
            have hnz : ¬ (neg s = true ∧ m = 0) := by
              rintro ⟨h1, h2⟩
              rw [h2] at hamt
              have := (amt_zero hds).1 hamt
              rw [h1, this] at hz
              simp at hz
            simp only [hnz, if_false]
            simp
        · simp only [Bool.and_eq_true, beq_iff_eq] at hz
          have : fixRes u v (neg s) = (0, 14) := by
            unfold fixRes
            rw [(amt_zero hds).2 hz.2]
            simp [hz.1]
          rw [if_neg (by simp), this]
          simp

theorem fixedN_arg {n p : Int} (h : p < 0 ∨ 15 < p) : fixedN n p = (⟨#[]⟩, 1) := by unfold fixedN; rw [if_pos h]
theorem fixedN_range {n p : Int} (h : ¬ (p < 0 ∨ 15 < p)) (h2 : n < -9007199254740992 ∨ 9007199254740992 < n) : fixedN n p = (⟨#[]⟩, 11) := by unfold fixedN; rw [if_neg h, if_pos h2]
theorem fixedN_ok {n p : Int} (h : ¬ (p < 0 ∨ 15 < p)) (h2 : ¬ (n < -9007199254740992 ∨ 9007199254740992 < n)) : (fixedN n p).2 = 0 := by
  unfold fixedN; rw [if_neg h, if_neg h2]; split
  · rfl
  · split <;> rfl

theorem rf_some (s : ByteArray) (p : Nat) (hp : p ≤ 15) (hs : s.size ≤ 140737488351232) (k : Nat) : ∃ m, decimal_ReadFixed.f (k + 4) s (p : Int) = some m := by
  by_cases hbig : 80 < s.size
  · unfold decimal_ReadFixed.f
    rw [if_neg (by omega)]
    simp only [decimal_ReadFixed.j0]
    rw [if_neg (by simp; omega), if_pos (by omega)]
    exact ⟨_, rfl⟩
  · by_cases h0 : p = 0
    · subst h0
      unfold decimal_ReadFixed.f
      rw [if_neg (by omega)]
      simp only [decimal_ReadFixed.j0]
      rw [if_neg (by simp), if_neg (by omega), if_pos (show ((0 : Nat) : Int) = 0 from rfl)]
      exact ⟨_, rfl⟩
    · obtain ⟨x, y, ok, hc, _⟩ := cutd s hs
      exact ⟨_, rf_ev s p (by omega) (by omega) (by omega) x y ok hc k⟩

theorem DecimalPoints : claplaw1_DecimalPoints.Pure := by
  intro n p s hn hp hs
  refine ⟨s.size + 200, ?_⟩
  obtain ⟨K, hK⟩ : ∃ K, K = s.size + 197 := ⟨_, rfl⟩
  rw [show s.size + 200 = K + 3 by omega]
  have hfx : decimal_Fixed.f n p = some (fixedN n p) := rfl
  unfold claplaw1_DecimalPoints.f
  rw [hfx, Option.bind_some]
  by_cases harg : p < 0 ∨ 15 < p
  · have hrf : decimal_ReadFixed.f (K + 3) s p = some (0, 1) := by
      unfold decimal_ReadFixed.f
      by_cases h : p < 0
      · rw [if_pos h]; rfl
      · rw [if_neg h]
        simp only [decimal_ReadFixed.j0]
        rw [if_pos (by simp; omega)]
    rw [hrf, Option.bind_some, fixedN_arg harg]
    have hj : ∀ v : Bool, v = true → claplaw1_DecimalPoints.j0 (K + 3) n p s (⟨#[]⟩ : ByteArray) 1 0 1 v = some true := by
      intro v hv
      simp only [claplaw1_DecimalPoints.j0]
      rw [if_pos hv, numbered_ev]
      simp [tl]
    by_cases h : p < 0
    · rw [if_pos h]; exact hj true rfl
    · rw [if_neg h]; exact hj _ (by simp; omega)
  · obtain ⟨q, rfl⟩ := Int.eq_ofNat_of_zero_le (show 0 ≤ p by omega)
    obtain ⟨m, hm⟩ := rf_some s q (by omega) hs (K - 1)
    rw [show K - 1 + 4 = K + 3 by omega] at hm
    rw [hm, Option.bind_some, if_neg (by omega)]
    have ht := fun x e => law_tail q (by omega) s hs x e K (by omega) m hm
    simp only [claplaw1_DecimalPoints.j0]
    rw [if_neg (by simp; omega)]
    unfold claplaw1_right.f
    by_cases hr : n < -9007199254740992 ∨ 9007199254740992 < n
    · rw [fixedN_range harg hr]
      by_cases h3 : n ≥ -9007199254740992
      · rw [if_pos h3, Option.bind_some, if_neg (by simp; omega)]
        exact ht _ _
      · rw [if_neg h3, Option.bind_some, if_neg (by simp)]
        exact ht _ _
    · rw [if_pos (show n ≥ -9007199254740992 by omega), Option.bind_some, if_pos (by simp; omega), pointed_ev n q harg hr (K + 2) (by omega), Option.bind_some, fixedN_ok harg hr]
      exact ht _ _

end Go.Proofs.YtnjjilnfpdepoaaDoor.Pure
