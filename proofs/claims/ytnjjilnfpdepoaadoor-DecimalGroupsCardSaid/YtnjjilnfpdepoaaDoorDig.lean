/-
  The walk of decimal.digits: the digits of a number from 0 to 2^53 on in a base from 2 to 36.
-/
import Derived.Test.YtnjjilnfpdepoaaDoorProg
import Derived.Test.YtnjjilnfpdepoaaDoorNum
import Derived.WalkKit
import Derived.WalkSpells
import Derived.WalkLawsBesides
import Derived.Deep.OwnRows
import Derived.Deep.LoopGhost
import Derived.Lib.Hide
namespace Go.Proofs.YtnjjilnfpdepoaaDoor
open Go.RowKit
set_option maxRecDepth 100000

theorem dig_byte : ∀ d : Fin 36, (((⟨#[48, 49, 50, 51, 52, 53, 54, 55, 56, 57, 97, 98, 99, 100, 101, 102, 103, 104, 105, 106, 107, 108, 109, 110, 111, 112, 113, 114, 115, 116, 117, 118, 119, 120, 121, 122]⟩ : ByteArray).data[d.val]?).getD 0) = Num.dg d.val := by decide

set_option maxHeartbeats 400000 in
theorem digit_any (d : Int) (w : World) (h0 : 0 ≤ d) (h1 : d < 36) :
    Calls Tryd.prog 104 #[.int .i64 d] w fun e w' => e = .returned (.int .u8 (Num.dg d.toNat).toNat) ∧ w = w' := by
  have hs : d.toNat < (⟨#[48, 49, 50, 51, 52, 53, 54, 55, 56, 57, 97, 98, 99, 100, 101, 102, 103, 104, 105, 106, 107, 108, 109, 110, 111, 112, 113, 114, 115, 116, 117, 118, 119, 120, 121, 122]⟩ : ByteArray).size := by
    show d.toNat < 36
    omega
  have hx := dig_byte ⟨d.toNat, by omega⟩
  go_enter Tryd.func104, Tryd.ntmps104
  go_wp2
  go_ret
  refine ⟨?_, rfl⟩
  show Ending.returned (Value.int .u8 (((_ : ByteArray).data[d.toNat]'hs).toNat : Int)) = _
  rw [← hx]
  simp only [Array.getElem?_eq_getElem (show d.toNat < (⟨#[48, 49, 50, 51, 52, 53, 54, 55, 56, 57, 97, 98, 99, 100, 101, 102, 103, 104, 105, 106, 107, 108, 109, 110, 111, 112, 113, 114, 115, 116, 117, 118, 119, 120, 121, 122]⟩ : ByteArray).data.size from hs), Option.getD_some]

def cellOf (l : List UInt8) (j : Nat) : Value := if j + l.length < 64 then .int .u8 0 else .int .u8 (l.getD (j + l.length - 64) 0).toNat

theorem slice_at (k g : Nat) (hk : k < 64) (W : World) :
    (Instr.sliceAt 114 (Value.pointer (some { block := g, off := 0 })) (some (Value.int IntKind.i64 (k : Int))) none none).run Tryd.prog W = .ok (.slice (some ⟨g, k, none⟩) (64 - k) (64 - k)) W := by
  have hl : Tryd.prog.arrayLen 114 = 64 := by kernel_rfl
  have he : Tryd.prog.elem 114 = 5 := by kernel_rfl
  have hu : Tryd.prog.underlying 114 = some (.array 64 5) := Tryd.underlying114
  rw [run_sliceAt_array_l W 114 _ (by rw [hl, he]; exact hu) .i64 (k : Int) (by omega) (by rw [hl]; omega), hl, he]
  rw [Tryd.sizeOf5]
  simp only [Result.andThen_ok, slicedAt, Int.toNat_natCast]
  rw [if_neg (by omega)]
  unfold Addr.add
  split <;> simp_all

theorem str_of (k g : Nat) (l : List UInt8) (W : World) (hl : k + l.length = 64) (hc : ∀ j (hj : j < l.length), W.cell? ⟨g, k + j, none⟩ = some (.int .u8 (l[j].toNat : Int))) :
    (convert 47 9 (.slice (some ⟨g, k, none⟩) (64 - k) (64 - k))).run Tryd.prog W = .ok (.string ⟨l.toArray⟩) W := by
  have e : 64 - k = l.length := by omega
  rw [e]
  refine run_convert_bytes_back W 47 9 5 ⟨g, k, none⟩ _ l Tryd.underlying47 Tryd.underlying5 Tryd.underlying9 (fun j hj => ?_)
  rw [← hc j hj]
  unfold Addr.add
  split <;> simp_all

theorem cellOf_lt {l : List UInt8} {j : Nat} (h : j + l.length < 64) : cellOf l j = .int .u8 0 := by unfold cellOf; rw [if_pos h]

theorem cellOf_cons (c : UInt8) (l : List UInt8) (k j : Nat) (hk : k + 1 + l.length = 64) :
    (if j = k then Value.int .u8 (c.toNat : Int) else cellOf l j) = cellOf (c :: l) j := by
  unfold cellOf
  by_cases e : j = k
  · subst e
    rw [if_pos rfl, if_neg (by simp; omega)]
    have : j + (c :: l).length - 64 = 0 := by simp; omega
    rw [this]; rfl
  · rw [if_neg e]
    by_cases h : j + l.length < 64
    · rw [if_pos h, if_pos (by simp; omega)]
    · rw [if_neg h, if_neg (by simp; omega)]
      have : j + (c :: l).length - 64 = (j + l.length - 64) + 1 := by simp; omega
      rw [this]; rfl

theorem cellOf_at (l : List UInt8) (k : Nat) (hk : k + l.length = 64) (j : Nat) (hj : j < l.length) : cellOf l (k + j) = .int .u8 (l[j].toNat : Int) := by
  unfold cellOf
  rw [if_neg (by omega)]
  have : k + j + l.length - 64 = j := by omega
  rw [this, List.getD_eq_getElem?_getD, List.getElem?_eq_getElem hj]; rfl

theorem num_bounds {b q k : Nat} (hb : 2 ≤ b) (hq : q < 2 ^ (k + 1 - 10)) (hz : ¬ q / b = 0) (hk : 11 ≤ k + 1) : q / b < 2 ^ (k - 10) ∧ 11 ≤ k := by
  have h1 : q / b ≤ q / 2 := Nat.div_le_div_left hb (by omega)
  have h2 : k + 1 - 10 = (k - 10) + 1 := by omega
  rw [h2, Nat.pow_succ] at hq
  refine ⟨by omega, ?_⟩
  rcases Nat.lt_or_ge k 11 with h | h
  · have h3 : k - 10 = 0 := by omega
    rw [h3] at hq
    exfalso
    apply hz
    exact Nat.div_eq_of_lt (by omega)
  · exact h

set_option maxHeartbeats 400000 in
theorem digits_any (n b : Nat) (w : World) (h1 : n ≤ 9007199254740992) (hb : 2 ≤ b) (hb' : b ≤ 36) :
    Calls Tryd.prog 63 #[.int .i64 (n : Int), .int .i64 (b : Int)] w fun e w' => e = .returned (.string ⟨(Num.num b n).toArray⟩) ∧ Below w.heap.size w w' := by
  go_enter Tryd.func63, Tryd.ntmps63
  go_wp2
  go_loopw [0, 6] (fun m i wr => ∃ (q k : Nat) (l : List UInt8), m = .int .i64 (q : Int) ∧ i = .int .i64 (k : Int) ∧ Hid (k + l.length = 64) ∧ 11 ≤ k ∧ k ≤ 64 ∧ q < 2 ^ (k - 10) ∧
      Hid (Num.num b n = Num.num b q ++ l) ∧ wr.rowIs w.heap.size 114 64 (cellOf l) ∧ Below w.heap.size w wr) (fun _ i _ => (intOf i).toNat)
  case atStart =>
    refine ⟨n, 64, [], rfl, rfl, rfl, by omega, by omega, by omega, by simp [Hid], ⟨_, heap_alloc_new w _, rfl, ?_⟩, (Below.refl _ _).alloc (Nat.le_refl _) _⟩
    intro i hi
    rw [cellOf_lt (by simpa using hi)]
    match i, hi with
    | 0, _ | 1, _ | 2, _ | 3, _ | 4, _ | 5, _ | 6, _ | 7, _ | 8, _ | 9, _ | 10, _ | 11, _ | 12, _ | 13, _ | 14, _ | 15, _ => rfl
    | 16, _ | 17, _ | 18, _ | 19, _ | 20, _ | 21, _ | 22, _ | 23, _ | 24, _ | 25, _ | 26, _ | 27, _ | 28, _ | 29, _ | 30, _ | 31, _ => rfl
    | 32, _ | 33, _ | 34, _ | 35, _ | 36, _ | 37, _ | 38, _ | 39, _ | 40, _ | 41, _ | 42, _ | 43, _ | 44, _ | 45, _ | 46, _ | 47, _ => rfl
    | 48, _ | 49, _ | 50, _ | 51, _ | 52, _ | 53, _ | 54, _ | 55, _ | 56, _ | 57, _ | 58, _ | 59, _ | 60, _ | 61, _ | 62, _ | 63, _ => rfl
    | i + 64, h => omega
  case round =>
    obtain ⟨q, k, l, rfl, rfl, HK, hk1, hk2, hq, HN, hrow, hbel⟩ := hrel
    obtain ⟨k, rfl⟩ : ∃ k', k = k' + 1 := ⟨k - 1, by omega⟩
    have hq2 : q ≤ 2 ^ 54 := by
      have : 2 ^ (k + 1 - 10) ≤ 2 ^ 54 := Nat.pow_le_pow_right (by omega) (by omega)
      omega
    have hq3 : (q : Int) ≤ 18014398509481984 := by omega
    have hc : wr.cell? ⟨w.heap.size, k, none⟩ = some (cellOf l k) := hrow.cell (by omega)
    rw [cellOf_lt (by have := HK.out; omega)] at hc
    have hf : wr.frozen? ⟨w.heap.size, k, none⟩ = false := hrow.frozen k
    have hm : 0 ≤ (q : Int) % (b : Int) := Int.emod_nonneg _ (by omega)
    have hm2 : (q : Int) % (b : Int) < 36 := by have := Int.emod_lt_of_pos (q : Int) (show (0 : Int) < b by omega); omega
    have hd1 : 0 ≤ (q : Int) / (b : Int) := Int.ediv_nonneg (by omega) (by omega)
    have hd2 : (q : Int) / (b : Int) ≤ 18014398509481984 := by have := Nat.div_le_self q b; rw [← Int.natCast_ediv]; omega
    have hrow2 : (wr.setCell ⟨w.heap.size, k, none⟩ (Value.int .u8 ((Num.dg (q % b)).toNat : Int))).rowIs w.heap.size 114 64 (cellOf (Num.dg (q % b) :: l)) :=
      (hrow.set k (Value.int .u8 ((Num.dg (q % b)).toNat : Int))).congr fun j _ => cellOf_cons _ _ _ _ HK.out
    have hbel2 := hbel.setCell (p := ⟨w.heap.size, k, none⟩) (Nat.le_refl _) (Value.int .u8 ((Num.dg (q % b)).toNat : Int))
    have hsl := slice_at k w.heap.size (by omega)
    by_cases hz : q / b = 0
    · have hzb : ((q : Int) / (b : Int) == 0) = true := by rw [← Int.natCast_ediv, hz]; rfl
      have hst := str_of k w.heap.size (Num.dg (q % b) :: l) _ (by have := HK.out; simp; omega) (fun j hj => by rw [hrow2.cell (by have := HK.out; simp at hj; omega), cellOf_at _ _ (by have := HK.out; simp; omega)])
      have HE := Lib.hid (Num.num_last hb hz l)
      clear hz
      go_wp2_with (first | (go_at_call 104; refine (digit_any _ _ (by assumption) (by assumption)).mono ?_; rintro e w' ⟨rfl, rfl⟩))
      go_ret
      refine ⟨?_, hbel2⟩
      rw [HN.out, HE.out]
      rfl
    · have hzb : ((q : Int) / (b : Int) == 0) = false := by rw [← Int.natCast_ediv, beq_eq_false_iff_ne]; intro h; exact hz (by exact_mod_cast h)
      have hfin := num_bounds hb hq hz hk1
      have HE := Lib.hid (Num.num_step hb hz l)
      clear hz
      go_wp2_with (first | (go_at_call 104; refine (digit_any _ _ (by assumption) (by assumption)).mono ?_; rintro e w' ⟨rfl, rfl⟩))
      go_roundw
      case rel => exact ⟨q / b, k, Num.dg (q % b) :: l, by rw [Int.natCast_ediv], rfl, by have := HK.out; simp [Hid]; omega, hfin.2, by omega, hfin.1, by show _ = _; rw [HN.out, HE.out], hrow2, hbel2⟩
      case measure => simp [intOf]

theorem digits_int (n b : Int) (w : World) (h0 : 0 ≤ n) (h1 : n ≤ 9007199254740992) (hb : 2 ≤ b) (hb' : b ≤ 36) :
    Calls Tryd.prog 63 #[.int .i64 n, .int .i64 b] w fun e w' => e = .returned (.string ⟨(Num.num b.toNat n.toNat).toArray⟩) ∧ Below w.heap.size w w' := by
  obtain ⟨n, rfl⟩ := Int.eq_ofNat_of_zero_le h0
  obtain ⟨b, rfl⟩ := Int.eq_ofNat_of_zero_le (show 0 ≤ b by omega)
  exact digits_any n b w (by omega) (by omega) (by omega)

end Go.Proofs.YtnjjilnfpdepoaaDoor
