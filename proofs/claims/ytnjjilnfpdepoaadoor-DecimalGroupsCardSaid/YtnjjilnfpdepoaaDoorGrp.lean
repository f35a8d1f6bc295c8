/-
  The walk of decimal.Group: a numeral with a byte between groups of digits, for every string, size and byte; one condition: the string's length is that of a string.
-/
import Derived.Test.YtnjjilnfpdepoaaDoorProg
import Derived.Test.YtnjjilnfpdepoaaDoorNum
import Derived.Test.YtnjjilnfpdepoaaDoorShelf
import Derived.Test.YtnjjilnfpdepoaaDoorBld
import Derived.Test.YtnjjilnfpdepoaaDoorRead
import Derived.Test.YtnjjilnfpdepoaaDoorPCutx1
import Derived.Deep.CutBlock
namespace Go.Proofs.YtnjjilnfpdepoaaDoor
open Go.RowKit
set_option maxRecDepth 100000

/-- Bytes with a separator wherever a multiple of sz of them is left, but not at the front. -/
def Num.ins (sz : Nat) (sep : UInt8) : Bool → List UInt8 → List UInt8
  | _, [] => []
  | f, c :: l => (if f = false ∧ (l.length + 1) % sz = 0 then [sep, c] else [c]) ++ Num.ins sz sep false l

def Num.alnum (l : List UInt8) : Bool := l.all fun c => decide (0 ≤ Num.val c)

/-- What Group makes of the parts of a numeral. -/
def Num.group (sz : Nat) (sep : UInt8) (neg : Bool) (x y : List UInt8) (pt : Bool) : List UInt8 × Int :=
  if Num.alnum (x ++ y) = false ∨ x = [] ∨ (pt = true ∧ y = []) then ([], 14)
  else ((if neg then [45] else []) ++ Num.ins sz sep true x ++ (if pt then 46 :: y else []), 0)

theorem Num.ins_length (sz : Nat) (sep : UInt8) : ∀ (l : List UInt8) (f : Bool), (Num.ins sz sep f l).length ≤ 2 * l.length
  | [], _ => by simp [Num.ins]
  | c :: l, f => by
    have := Num.ins_length sz sep l false
    rw [Num.ins]
    split <;> simp <;> omega

theorem Num.ins_sep {sz : Nat} {sep c : UInt8} {l : List UInt8} (h : (l.length + 1) % sz = 0) : Num.ins sz sep false (c :: l) = sep :: c :: Num.ins sz sep false l := by
  rw [Num.ins, if_pos ⟨rfl, h⟩]; rfl
theorem Num.ins_one {sz : Nat} {sep c : UInt8} {l : List UInt8} {f : Bool} (h : f = true ∨ ¬ (l.length + 1) % sz = 0) : Num.ins sz sep f (c :: l) = c :: Num.ins sz sep false l := by
  rw [Num.ins, if_neg (by rintro ⟨h1, h2⟩; rcases h with h | h; · rw [h] at h1; cases h1
                          · exact h h2)]; rfl

theorem wb (B b : Nat) (l : List UInt8) (c : UInt8) (w : World) (h : Lib.IsBuilder 82 5 B b (Lib.byteCells l) w) (hlen : l.length + 1 ≤ 140737488355328) (hBw : B ≤ w.heap.size) :
    Calls Tryd.prog 56 #[.pointer (some ⟨b, 0, none⟩), .int .u8 (c.toNat : Int)] w fun e w' => e = .returned .nilIface ∧ (Lib.IsBuilder 82 5 B b (Lib.byteCells (l ++ [c])) w' ∧ Below B w w') := by
  have := Tryd.Builder_WriteByte B b (Lib.byteCells l) (c.toNat : Int) w h (by rw [Lib.byteCells_length]; exact hlen) hBw
  rw [show Lib.byteCells (l ++ [c]) = Lib.byteCells l ++ [.int .u8 (c.toNat : Int)] by simp [Lib.byteCells]]
  exact this

theorem ws (B b : Nat) (l : List UInt8) (s : ByteArray) (w : World) (h : Lib.IsBuilder 82 5 B b (Lib.byteCells l) w) (hlen : l.length + s.size ≤ 140737488355328) (hBw : B ≤ w.heap.size) :
    Calls Tryd.prog 57 #[.pointer (some ⟨b, 0, none⟩), .string s] w fun e w' => e = .returned (.tuple #[.int .i64 s.size, .nilIface]) ∧ (Lib.IsBuilder 82 5 B b (Lib.byteCells (l ++ s.data.toList)) w' ∧ Below B w w') := by
  have := Tryd.Builder_WriteString B b (Lib.byteCells l) s w h (by rw [Lib.byteCells_length]; exact hlen) hBw
  rw [show Lib.byteCells (l ++ s.data.toList) = Lib.byteCells l ++ Lib.strCells s by simp [Lib.byteCells, Lib.strCells]]
  exact this

set_option maxHeartbeats 1600000 in
theorem group_walk (s t x y : ByteArray) (neg pt : Bool) (sz : Nat) (sep : UInt8) (w : World) (h1 : 1 ≤ sz) (h2 : sz ≤ 15) (hs : s.size ≤ 80) (hxy : x.size + y.size ≤ 80)
   (hv : Num.val sep < 0) (hm : sep.toNat ≠ 45) (hp : sep.toNat ≠ 46)
   (hcut : Hid (∀ w, Calls Tryd.prog 66 #[.string s, .string ⟨#[45]⟩] w fun e w' => e = .returned (.tuple #[.string t, .bool neg]) ∧ w = w'))
   (hcut2 : Hid (∀ w, Calls Tryd.prog 24 #[.string t, .string ⟨#[46]⟩] w fun e w' => e = .returned (.tuple #[.string x, .string y, .bool pt]) ∧ Below w.heap.size w w')) :
    Calls Tryd.prog 28 #[.string s, .int .i64 (sz : Int), .int .u8 (sep.toNat : Int)] w fun e w' => e = .returned (.tuple #[.string ⟨(Num.group sz sep neg x.data.toList y.data.toList pt).1.toArray⟩, .int .i64 (Num.group sz sep neg x.data.toList y.data.toList pt).2]) ∧ Below w.heap.size w w' := by
  obtain ⟨d, hd⟩ : ∃ d, d = Num.val sep := ⟨_, rfl⟩
  have hval : Hid (∀ w, Calls Tryd.prog 82 #[.int .u8 (sep.toNat : Int)] w fun e w' => e = .returned (.int .i64 d) ∧ w = w') := Lib.hid (by rw [hd]; exact fun w => value_any sep w)
  rw [← hd] at hv
  clear hd
  have hdb : decide (0 ≤ d) = false := decide_eq_false (by omega)
  have hmb : ((sep.toNat : Int) == 45) = false := by rw [beq_eq_false_iff_ne]; omega
  have hpb : ((sep.toNat : Int) == 46) = false := by rw [beq_eq_false_iff_ne]; omega
  go_enter Tryd.func28, Tryd.ntmps28
  go_upto_region 7 with (first | (go_at_call 82; refine (hval.out _).mono ?_; rintro e w' ⟨rfl, rfl⟩) | (go_at_call 66; refine (hcut.out _).mono ?_; rintro e w' ⟨rfl, rfl⟩) | (go_at_call 24; refine (hcut2.out _).mono ?_; rintro e w' ⟨rfl, hw1⟩))
  have htx : (x ++ y).data.toList = x.data.toList ++ y.data.toList := by simp
  obtain ⟨t2, ht2⟩ : ∃ t2, t2 = x ++ y := ⟨_, rfl⟩
  have hsz : t2.size ≤ 80 := by rw [ht2, ByteArray.size_append]; omega
  rw [← ht2] at htx
  have hcv := Lib.run_convert_string_bytes (P := Tryd.prog) w' 9 47 5 t2 Tryd.underlying9 Tryd.underlying47 Tryd.underlying5
  conv at hcv => lhs; rw [ht2]
  have HB := Lib.hid (below_bytes w' t2)
  have HC : Hid (∀ j, j < t2.size → (Lib.bytesWorld w' 5 t2).cell? ⟨w'.heap.size, j, none⟩ = some (.int .u8 (t2.data.toList.getD j 0).toNat)) := Lib.hid (fun j hj => Lib.bytesWorld_cell w' 5 t2 j hj)
  have HX := Lib.hid htx
  have hw1 := Lib.hid hw1
  clear htx
  have ht2 := Lib.hid ht2
  rename_i hw0
  clear hw0
  go_upto_block 1 with (fail)
  go_cut [] (fun wc => Hid (Num.alnum t2.data.toList = true) ∧ wc = Lib.bytesWorld w' 5 t2)
  case first =>
    have hlen : Hid (t2.data.toList.length = t2.size) := Lib.hid rfl
    have hsz0 : (0 : Int) ≤ t2.size := by omega
    go_wp2_with (fail)
    go_loop [57] (fun i => ∃ k : Nat, i = .int .i64 k ∧ k ≤ t2.size ∧ Hid (Num.alnum t2.data.toList = Num.alnum (t2.data.toList.drop k))) (fun i => t2.size - (intOf i).toNat)
    case atStart => exact ⟨0, rfl, by omega, rfl⟩
    case round =>
      obtain ⟨k, rfl, hk, HR⟩ := hrel
      by_cases hlt : k < t2.size
      · have hc := HC.out k hlt
        have HD : Hid (t2.data.toList.drop k = t2.data.toList.getD k 0 :: t2.data.toList.drop (k + 1)) := Lib.hid (drop_at (by rw [hlen.out]; exact hlt))
        obtain ⟨c, hcc⟩ : ∃ c, c = t2.data.toList.getD k 0 := ⟨_, rfl⟩
        rw [← hcc] at hc HD
        clear hcc
        obtain ⟨d2, hd2⟩ : ∃ d2, d2 = Num.val c := ⟨_, rfl⟩
        have hval2 : Hid (∀ w, Calls Tryd.prog 82 #[.int .u8 (c.toNat : Int)] w fun e w' => e = .returned (.int .i64 d2) ∧ w = w') := Lib.hid (by rw [hd2]; exact fun w => value_any c w)
        have hd2' := Lib.hid hd2
        clear hd2
        by_cases hd0 : d2 < 0
        · have HN : Hid (Num.alnum t2.data.toList = false) := Lib.hid (by rw [HR.out, HD.out, Num.alnum, List.all_cons, ← hd2'.out, decide_eq_false (by omega)]; rfl)
          go_wp2_with (first | (go_at_call 82; refine (hval2.out _).mono ?_; rintro e w' ⟨rfl, rfl⟩))
          go_ret2
          have hf : Num.group sz sep neg x.data.toList y.data.toList pt = ([], 14) := by unfold Num.group; rw [← HX.out, HN.out, if_pos (Or.inl rfl)]
          rw [hf]
          exact ⟨rfl, hw1.out.trans (HB.out.mono hw1.out.size)⟩
        · have HN : Hid (Num.alnum t2.data.toList = Num.alnum (t2.data.toList.drop (k + 1))) := Lib.hid (by rw [HR.out, HD.out, Num.alnum, List.all_cons, ← hd2'.out, decide_eq_true (by omega)]; rfl)
          go_wp2_with (first | (go_at_call 82; refine (hval2.out _).mono ?_; rintro e w' ⟨rfl, rfl⟩))
          go_round
          case rel => exact ⟨k + 1, by go_num, by omega, HN⟩
          case measure => simp [intOf]; omega
      · have HN : Hid (Num.alnum t2.data.toList = true) := Lib.hid (by rw [HR.out, List.drop_eq_nil_of_le (by rw [hlen.out]; omega)]; rfl)
        go_wp2
        go_meet
        exact ⟨HN, rfl⟩
  case rest =>
    obtain ⟨HA, rfl⟩ := hcut
    have hxl : x.data.toList = x.toList := by rw [ByteArray.toList_eq]
    have hyl : y.data.toList = y.toList := by rw [ByteArray.toList_eq]
    have hG : Hid ((x.toList = [] ∨ (pt = true ∧ y.toList = [])) → Num.group sz sep neg x.data.toList y.data.toList pt = ([], 14)) := Lib.hid (fun h => by unfold Num.group; rw [hxl, hyl, if_pos (Or.inr h)])
    have hG2 : Hid (¬ (x.toList = [] ∨ (pt = true ∧ y.toList = [])) → Num.group sz sep neg x.data.toList y.data.toList pt = ((if neg then [45] else []) ++ Num.ins sz sep true x.data.toList ++ (if pt then 46 :: y.data.toList else []), 0)) := Lib.hid (fun h => by
      unfold Num.group
      rw [if_neg]
      rintro (h1 | h1)
      · rw [← HX.out, HA.out] at h1; cases h1
      · rw [hxl, hyl] at h1; exact h h1)
    clear hxl hyl
    obtain ⟨w0, hw0⟩ : ∃ w0, w0 = Lib.bytesWorld w' 5 t2 := ⟨_, rfl⟩
    have HW : Hid (Below w.heap.size w w0) := Lib.hid (by rw [hw0]; exact hw1.out.trans (HB.out.mono hw1.out.size))
    rw [← hw0]
    clear hw0 HC HB hcv
    by_cases hx : x.toList = []
    · have hf := Lib.hid (hG.out (Or.inl hx))
      have hxe : x.toList.isEmpty = true := by rw [hx]; rfl
      go_wp2
      go_ret2
      refine ⟨?_, HW.out⟩
      rw [hf.out]; rfl
    · have hxe : x.toList.isEmpty = false := by rw [List.isEmpty_eq_false_iff]; exact hx
      by_cases hpe : pt = true ∧ y.toList = []
      · have hf := Lib.hid (hG.out (Or.inr hpe))
        obtain ⟨rfl, hy⟩ := hpe
        have hye : y.toList.isEmpty = true := by rw [hy]; rfl
        go_wp2
        go_ret2
        refine ⟨?_, HW.out⟩
        rw [hf.out]; rfl
      · have hf := Lib.hid (hG2.out (by rintro (h | h); exact hx h; exact hpe h))
        have hye : pt = true → y.toList.isEmpty = false := by intro hp; rw [List.isEmpty_eq_false_iff]; intro hy; exact hpe ⟨hp, hy⟩
        clear hpe hG hG2
        have hye' := Lib.hid hye
        clear hye
        cases pt
        case' true => have hye := hye'.out rfl
        all_goals (
          go_upto_region 15 with (fail)
          have HI := Lib.hid (Lib.fresh_isBuilder 82 5 w0)
          have HBA : Hid (Below w0.heap.size w0 (w0.alloc (.cells #[.pointer none, .slice none 0 0] 82))) := Lib.hid ((Below.refl _ _).alloc (Nat.le_refl _) _)
          go_upto_region 16 with (fail)
          cases neg)
        all_goals go_upto_region 18 with (first | (go_at_call 56; refine (wb w0.heap.size w0.heap.size [] 45 _ HI.out (by simp) (by simp)).mono ?_; rintro e w2 ⟨rfl, HI2, HB2⟩))
        all_goals first
          | (have HP := Lib.hid (And.intro HI2 (HBA.out.trans HB2))
             clear HI2 HB2
             obtain ⟨pre, hpre⟩ : ∃ pre : List UInt8, pre = [] ++ [45] := ⟨_, rfl⟩
             rw [← hpre] at HP
             have HL : Hid (pre.length ≤ 1) := Lib.hid (by rw [hpre]; decide)
             have hpre' : Hid (pre = [45]) := Lib.hid hpre
             clear hpre)
          | (obtain ⟨w2, hw2⟩ : ∃ w2, w2 = w0.alloc (.cells #[.pointer none, .slice none 0 0] 82) := ⟨_, rfl⟩
             rw [← hw2] at HI HBA
             simp only [← hw2]
             clear hw2
             have HP := Lib.hid (And.intro HI.out HBA.out)
             obtain ⟨pre, hpre⟩ : ∃ pre : List UInt8, pre = [] := ⟨_, rfl⟩
             change Hid (Lib.IsBuilder 82 5 w0.heap.size w0.heap.size (Lib.byteCells []) w2 ∧ _) at HP
             rw [← hpre] at HP
             have HL : Hid (pre.length ≤ 1) := Lib.hid (by rw [hpre]; decide)
             have hpre' : Hid (pre = []) := Lib.hid hpre
             clear hpre)
        all_goals (
          clear HI HBA
          have hlen : Hid (x.data.toList.length = x.size) := Lib.hid rfl
          have hxs : (x.size : Int) ≤ 80 := by omega
          go_upto_block 3 with (fail)
          go_cut [] (fun wr => Hid (Lib.IsBuilder 82 5 w0.heap.size w0.heap.size (Lib.byteCells (pre ++ Num.ins sz sep true x.data.toList)) wr ∧ Below w0.heap.size w0 wr))
          case first =>
            go_wp2_with (fail)
            go_loopw [78] (fun i wr => ∃ (k : Nat) (o : List UInt8), i = .int .i64 k ∧ k ≤ x.size ∧ Hid (Lib.IsBuilder 82 5 w0.heap.size w0.heap.size (Lib.byteCells o) wr ∧ Below w0.heap.size w0 wr) ∧ Hid (o.length ≤ 1 + 2 * k) ∧ Hid (pre ++ Num.ins sz sep true x.data.toList = o ++ Num.ins sz sep (k == 0) (x.data.toList.drop k))) (fun i _ => x.size - (intOf i).toNat)
            case atStart => exact ⟨0, pre, rfl, by omega, HP, Lib.hid (by have := HL.out; omega), rfl⟩
            case round =>
              obtain ⟨k, o, rfl, hk, HW2, HO, HR⟩ := hrel
              by_cases hlt : k < x.size
              · obtain ⟨c, hcc⟩ : ∃ c, c = x.data.toList.getD k 0 := ⟨_, rfl⟩
                have HD : Hid (x.data.toList.drop k = c :: x.data.toList.drop (k + 1)) := Lib.hid (by rw [hcc]; exact drop_at (by rw [hlen.out]; exact hlt))
                have hlr : Hid ((x.data.toList.drop (k + 1)).length + 1 = x.size - k) := Lib.hid (by rw [List.length_drop, hlen.out]; omega)
                have hget : Hid (∀ h : k < x.size, x[k]'h = c) := Lib.hid (by intro h; rw [hcc, List.getD_eq_getElem?_getD, List.getElem?_eq_getElem (show k < x.data.toList.length from h)]; rfl)
                clear hcc
                by_cases hk0 : k = 0
                · subst hk0
                  have HN : Hid (pre ++ Num.ins sz sep true x.data.toList = (o ++ [c]) ++ Num.ins sz sep (0 + 1 == 0) (x.data.toList.drop (0 + 1))) := Lib.hid (by rw [HR.out, HD.out, show (0 == 0) = true from rfl, Num.ins_one (Or.inl rfl), List.append_assoc]; rfl)
                  go_wp2_with (first | (go_at_call 56; refine (wb w0.heap.size w0.heap.size o _ _ HW2.out.1 (by have := HO.out; omega) HW2.out.2.size).mono ?_; rintro e w3 ⟨rfl, HI3, HB3⟩))
                  go_roundw
                  case rel => exact ⟨0 + 1, o ++ [c], by go_num, by omega, Lib.hid ⟨by rw [← hget.out hlt]; exact HI3, HW2.out.2.trans HB3⟩, Lib.hid (by have := HO.out; rw [List.length_append, List.length_singleton]; omega), HN⟩
                  case measure => simp [intOf]; omega
                · have hkb : decide (0 < (k : Int)) = true := decide_eq_true (by omega)
                  by_cases hmod : (x.size - k) % sz = 0
                  · have hmb2 : (((x.size : Int) - (k : Int)) % (sz : Int) == 0) = true := by rw [beq_iff_eq, show (x.size : Int) - (k : Int) = ((x.size - k : Nat) : Int) by omega, ← Int.natCast_emod, hmod]; rfl
                    have HN : Hid (pre ++ Num.ins sz sep true x.data.toList = (o ++ [sep] ++ [c]) ++ Num.ins sz sep (k + 1 == 0) (x.data.toList.drop (k + 1))) := Lib.hid (by rw [HR.out, HD.out, show (k == 0) = false by simp [hk0], Num.ins_sep (by rw [hlr.out]; exact hmod), show (k + 1 == 0) = false by simp]; simp)
                    clear hmod
                    go_wp2_with (first | (go_at_call 56; refine (wb w0.heap.size w0.heap.size (o ++ [sep]) _ _ HI3 (by have := HO.out; rw [List.length_append, List.length_singleton]; omega) (HW2.out.2.trans HB3).size).mono ?_; rintro e w4 ⟨rfl, HI4, HB4⟩) | (go_at_call 56; refine (wb w0.heap.size w0.heap.size o _ _ HW2.out.1 (by have := HO.out; omega) HW2.out.2.size).mono ?_; rintro e w3 ⟨rfl, HI3, HB3⟩))
                    go_roundw
                    case rel => exact ⟨k + 1, o ++ [sep] ++ [c], by go_num, by omega, Lib.hid ⟨by rw [← hget.out hlt]; exact HI4, (HW2.out.2.trans HB3).trans HB4⟩, Lib.hid (by have := HO.out; simp only [List.length_append, List.length_singleton]; omega), HN⟩
                    case measure => simp [intOf]; omega
                  · have hmb2 : (((x.size : Int) - (k : Int)) % (sz : Int) == 0) = false := by
                      rw [beq_eq_false_iff_ne, show (x.size : Int) - (k : Int) = ((x.size - k : Nat) : Int) by omega, ← Int.natCast_emod]; exact_mod_cast hmod
                    have HN : Hid (pre ++ Num.ins sz sep true x.data.toList = (o ++ [c]) ++ Num.ins sz sep (k + 1 == 0) (x.data.toList.drop (k + 1))) := Lib.hid (by rw [HR.out, HD.out, show (k == 0) = false by simp [hk0], Num.ins_one (Or.inr (by rw [hlr.out]; exact hmod)), show (k + 1 == 0) = false by simp]; simp)
                    clear hmod
                    go_wp2_with (first | (go_at_call 56; refine (wb w0.heap.size w0.heap.size o _ _ HW2.out.1 (by have := HO.out; omega) HW2.out.2.size).mono ?_; rintro e w3 ⟨rfl, HI3, HB3⟩))
                    go_roundw
                    case rel => exact ⟨k + 1, o ++ [c], by go_num, by omega, Lib.hid ⟨by rw [← hget.out hlt]; exact HI3, HW2.out.2.trans HB3⟩, Lib.hid (by have := HO.out; rw [List.length_append, List.length_singleton]; omega), HN⟩
                    case measure => simp [intOf]; omega
              · have HN : Hid (pre ++ Num.ins sz sep true x.data.toList = o) := Lib.hid (by rw [HR.out, List.drop_eq_nil_of_le (by rw [hlen.out]; omega), Num.ins, List.append_nil])
                go_wp2
                go_meet
                rw [HN.out]
                exact HW2
          case rest =>
            have HQ : Hid ((pre ++ Num.ins sz sep true x.data.toList).length + ((⟨#[46]⟩ : ByteArray) ++ y).size ≤ 140737488355328) := Lib.hid (by
              have h1 := Num.ins_length sz sep x.data.toList true
              have h2 := HL.out
              have h3 := hlen.out
              rw [List.length_append, ByteArray.size_append, size_lit1]
              omega)
            have Hdot : Hid (((⟨#[46]⟩ : ByteArray) ++ y).data.toList = 46 :: y.data.toList) := Lib.hid (by simp)
            go_wp2_with (first | (go_at_call 57; refine (ws w0.heap.size w0.heap.size (pre ++ Num.ins sz sep true x.data.toList) _ _ hcut.out.1 HQ.out hcut.out.2.size).mono ?_; rintro e w4 ⟨rfl, HI4, HB4⟩) | (go_at_call 59; refine (Tryd.Builder_String_any w0.heap.size w0.heap.size _ _ HI4 (hcut.out.2.trans HB4).size).mono ?_; rintro e w5 ⟨rfl, HB5⟩) | (go_at_call 59; refine (Tryd.Builder_String_any w0.heap.size w0.heap.size _ _ hcut.out.1 hcut.out.2.size).mono ?_; rintro e w5 ⟨rfl, HB5⟩))
            go_ret2
            rw [hf.out]
            first
              | (have hb : Below w.heap.size w w5 := HW.out.trans (((hcut.out.2.trans HB4).trans HB5).mono HW.out.size)
                 refine ⟨?_, hb⟩
                 rw [hpre'.out]
                 simp)
              | (have hb : Below w.heap.size w w5 := HW.out.trans ((hcut.out.2.trans HB5).mono HW.out.size)
                 refine ⟨?_, hb⟩
                 rw [hpre'.out]
                 simp))

end Go.Proofs.YtnjjilnfpdepoaaDoor
