/-
  The walk of the law's own grouping (DecimalGroups$1), for every string; the size is from 1 to 15.
-/
import Derived.Test.YtnjjilnfpdepoaaDoorUng
import Derived.Test.YtnjjilnfpdepoaaDoorGplain
import Derived.Test.YtnjjilnfpdepoaaDoorLib
import Derived.Test.YtnjjilnfpdepoaaDoorPre
import Derived.Deep.RegionHeld3
import Derived.Laws.AppendOwn
import Derived.Lib.AppendZeros
import Derived.Deep.AppendLies
import Derived.OwnWalk
import Derived.Test.YtnjjilnfpdepoaaDoorWLast
namespace Go.Proofs.YtnjjilnfpdepoaaDoor
open Go.RowKit
set_option maxRecDepth 100000

/-- The size of a string value. -/
def szOf : Value → Nat
  | .string s => s.size
  | _ => 0

def DIGS36 : ByteArray := ⟨#[48, 49, 50, 51, 52, 53, 54, 55, 56, 57, 97, 98, 99, 100, 101, 102, 103, 104, 105, 106, 107, 108, 109, 110, 111, 112, 113, 114, 115, 116, 117, 118, 119, 120, 121, 122]⟩

/-- What the law's grouping makes of the parts: none if there is something beside digits. -/
def Num.badParts (x y : List UInt8) (pt : Bool) : Prop := x = [] ∨ (pt = true ∧ y = []) ∨ Lib.trimS x DIGS36.data.toList ≠ [] ∨ Lib.trimS y DIGS36.data.toList ≠ []

theorem join_gs (gs : List ByteArray) (sep : UInt8) (jb : ByteArray) (g cap n : Nat) (w w0 W : World) (hn : n = gs.length) (h : GS gs (.slice (some ⟨g, 0, none⟩) n cap) w) (hb0 : Below w0.heap.size w0 W) (hb : Below w.heap.size w W)
    (hj : Lib.join (gs.map (·.data.toList)) [sep] = jb.data.toList) (hjs : jb.size ≤ 1000) (hl : gs.length ≤ 1000) :
    Calls Tryd.prog 26 #[.slice (some ⟨g, 0, none⟩) n cap, .string ⟨#[sep]⟩] W fun e w' => e = .returned (.string jb) ∧ Below w0.heap.size w0 w' := by
  rcases h with ⟨_, h2⟩ | ⟨g', cap', h1, h2, h3, h4⟩
  · cases h2
  · cases h1
    have hl : jb.data.toList.length = jb.size := rfl
    have hJ := Tryd.strings_Join g 0 cap gs ⟨#[sep]⟩ W (fun j x hx => by rw [Nat.zero_add, hb.cell (p := ⟨g, j, none⟩) h3]; exact h4 j x hx) (Nat.lt_of_lt_of_le h3 hb.size) (by omega) h2 (by rw [hj]; omega)
    refine hJ.mono fun e w' ⟨he, hw⟩ => ⟨?_, hb0.trans (hw.mono hb0.size)⟩
    rw [he, hj]

set_option maxHeartbeats 1600000 in
theorem clo_walk (R : Value) (i : Nat) (s b x y tx ty jb : ByteArray) (pt : Bool) (sz A C : Nat) (sep : UInt8) (w : World) (h1 : 1 ≤ sz) (h2 : sz ≤ 15) (hs : s.size ≤ 160)
   (hb : b.size ≤ s.size) (hxy : x.size + y.size ≤ b.size) (hA : A < w.heap.size) (hC : C < w.heap.size)
   (hsz : w.cell? ⟨A, 0, none⟩ = some (.int .i64 (sz : Int))) (hsp : w.cell? ⟨C, 0, none⟩ = some (.int .u8 (sep.toNat : Int)))
   (hRb : Hid ((x.toList.isEmpty || (pt && y.toList.isEmpty) || !tx.toList.isEmpty || !ty.toList.isEmpty) = true → R = .tuple #[.string ⟨#[]⟩, .bool false]))
   (hRg : Hid ((x.toList.isEmpty || (pt && y.toList.isEmpty) || !tx.toList.isEmpty || !ty.toList.isEmpty) = false → R = .tuple #[.string (s.extract 0 (s.size - b.size) ++ jb ++ b.extract i b.size), .bool true]))
   (hjs : jb.size ≤ 1000) (HJ : Hid (Lib.join (Num.chunks sz x.data.toList []) [sep] = jb.data.toList))
   (hi : i ≤ b.size) (h27 : Hid (∀ w, Calls Tryd.prog 27 #[.string (b ++ ⟨#[46]⟩), .int .u8 46] w fun e w' => e = .returned (.int .i64 (i : Int)) ∧ w = w'))
   (h23 : Hid (∀ w, Calls Tryd.prog 23 #[.string s, .string ⟨#[45]⟩] w fun e w' => e = .returned (.string b) ∧ w = w'))
   (h24 : Hid (∀ w, Calls Tryd.prog 24 #[.string b, .string ⟨#[46]⟩] w fun e w' => e = .returned (.tuple #[.string x, .string y, .bool pt]) ∧ Below w.heap.size w w'))
   (h25x : Hid (∀ w, Calls Tryd.prog 25 #[.string x, .string ⟨#[48, 49, 50, 51, 52, 53, 54, 55, 56, 57, 97, 98, 99, 100, 101, 102, 103, 104, 105, 106, 107, 108, 109, 110, 111, 112, 113, 114, 115, 116, 117, 118, 119, 120, 121, 122]⟩] w fun e w' => e = .returned (.string tx) ∧ Below w.heap.size w w'))
   (h25y : Hid (∀ w, Calls Tryd.prog 25 #[.string y, .string ⟨#[48, 49, 50, 51, 52, 53, 54, 55, 56, 57, 97, 98, 99, 100, 101, 102, 103, 104, 105, 106, 107, 108, 109, 110, 111, 112, 113, 114, 115, 116, 117, 118, 119, 120, 121, 122]⟩] w fun e w' => e = .returned (.string ty) ∧ Below w.heap.size w w')) :
    Calls Tryd.prog 22 #[.string s, .pointer (some ⟨A, 0, none⟩), .pointer (some ⟨C, 0, none⟩)] w fun e w' => e = .returned R ∧ Below w.heap.size w w' := by
  go_enter Tryd.func22, Tryd.ntmps22
  go_upto_region 3 with (first | (go_at_call 23; refine (h23.out _).mono ?_; rintro e w1 ⟨rfl, rfl⟩) | (go_at_call 24; refine (h24.out _).mono ?_; rintro e w1 ⟨rfl, hw1⟩))
  have HW1 : Hid (Below w.heap.size w w1) := Lib.hid hw1
  clear hw1
  go_cut [38] (fun v wc => v = .bool (x.toList.isEmpty || (pt && y.toList.isEmpty) || !tx.toList.isEmpty || !ty.toList.isEmpty) ∧ Hid (Below w.heap.size w wc))
  case first =>
    cases hx : x.toList.isEmpty
    · cases pt
      · cases htx : tx.toList.isEmpty
        · go_wp2_with (first | (go_at_call 25; with_reducible refine (h25x.out _).mono ?_; rintro e w2 ⟨rfl, hw2⟩) | (go_at_call 25; with_reducible refine (h25y.out _).mono ?_; rintro e w3 ⟨rfl, hw3⟩))
          go_meet
          refine ⟨by first | rfl | simp [*], ?_⟩
          first
            | exact Lib.hid ((HW1.out.trans (hw2.mono HW1.out.size)).trans (hw3.mono (HW1.out.trans (hw2.mono HW1.out.size)).size))
            | exact Lib.hid (HW1.out.trans (hw2.mono HW1.out.size))
            | exact HW1
        · cases hty : ty.toList.isEmpty
          · go_wp2_with (first | (go_at_call 25; with_reducible refine (h25x.out _).mono ?_; rintro e w2 ⟨rfl, hw2⟩) | (go_at_call 25; with_reducible refine (h25y.out _).mono ?_; rintro e w3 ⟨rfl, hw3⟩))
            go_meet
            refine ⟨by first | rfl | simp [*], ?_⟩
            first
              | exact Lib.hid ((HW1.out.trans (hw2.mono HW1.out.size)).trans (hw3.mono (HW1.out.trans (hw2.mono HW1.out.size)).size))
              | exact Lib.hid (HW1.out.trans (hw2.mono HW1.out.size))
              | exact HW1
          · go_wp2_with (first | (go_at_call 25; with_reducible refine (h25x.out _).mono ?_; rintro e w2 ⟨rfl, hw2⟩) | (go_at_call 25; with_reducible refine (h25y.out _).mono ?_; rintro e w3 ⟨rfl, hw3⟩))
            go_meet
            refine ⟨by first | rfl | simp [*], ?_⟩
            first
              | exact Lib.hid ((HW1.out.trans (hw2.mono HW1.out.size)).trans (hw3.mono (HW1.out.trans (hw2.mono HW1.out.size)).size))
              | exact Lib.hid (HW1.out.trans (hw2.mono HW1.out.size))
              | exact HW1
      · cases hy : y.toList.isEmpty
        · cases htx : tx.toList.isEmpty
          · go_wp2_with (first | (go_at_call 25; with_reducible refine (h25x.out _).mono ?_; rintro e w2 ⟨rfl, hw2⟩) | (go_at_call 25; with_reducible refine (h25y.out _).mono ?_; rintro e w3 ⟨rfl, hw3⟩))
            go_meet
            refine ⟨by first | rfl | simp [*], ?_⟩
            first
              | exact Lib.hid ((HW1.out.trans (hw2.mono HW1.out.size)).trans (hw3.mono (HW1.out.trans (hw2.mono HW1.out.size)).size))
              | exact Lib.hid (HW1.out.trans (hw2.mono HW1.out.size))
              | exact HW1
          · cases hty : ty.toList.isEmpty
            · go_wp2_with (first | (go_at_call 25; with_reducible refine (h25x.out _).mono ?_; rintro e w2 ⟨rfl, hw2⟩) | (go_at_call 25; with_reducible refine (h25y.out _).mono ?_; rintro e w3 ⟨rfl, hw3⟩))
              go_meet
              refine ⟨by first | rfl | simp [*], ?_⟩
              first
                | exact Lib.hid ((HW1.out.trans (hw2.mono HW1.out.size)).trans (hw3.mono (HW1.out.trans (hw2.mono HW1.out.size)).size))
                | exact Lib.hid (HW1.out.trans (hw2.mono HW1.out.size))
                | exact HW1
            · go_wp2_with (first | (go_at_call 25; with_reducible refine (h25x.out _).mono ?_; rintro e w2 ⟨rfl, hw2⟩) | (go_at_call 25; with_reducible refine (h25y.out _).mono ?_; rintro e w3 ⟨rfl, hw3⟩))
              go_meet
              refine ⟨by first | rfl | simp [*], ?_⟩
              first
                | exact Lib.hid ((HW1.out.trans (hw2.mono HW1.out.size)).trans (hw3.mono (HW1.out.trans (hw2.mono HW1.out.size)).size))
                | exact Lib.hid (HW1.out.trans (hw2.mono HW1.out.size))
                | exact HW1
        · go_wp2_with (first | (go_at_call 25; with_reducible refine (h25x.out _).mono ?_; rintro e w2 ⟨rfl, hw2⟩) | (go_at_call 25; with_reducible refine (h25y.out _).mono ?_; rintro e w3 ⟨rfl, hw3⟩))
          go_meet
          refine ⟨by first | rfl | simp [*], ?_⟩
          first
            | exact Lib.hid ((HW1.out.trans (hw2.mono HW1.out.size)).trans (hw3.mono (HW1.out.trans (hw2.mono HW1.out.size)).size))
            | exact Lib.hid (HW1.out.trans (hw2.mono HW1.out.size))
            | exact HW1
    · go_wp2_with (first | (go_at_call 25; with_reducible refine (h25x.out _).mono ?_; rintro e w2 ⟨rfl, hw2⟩) | (go_at_call 25; with_reducible refine (h25y.out _).mono ?_; rintro e w3 ⟨rfl, hw3⟩))
      go_meet
      refine ⟨by first | rfl | simp [*], ?_⟩
      first
        | exact Lib.hid ((HW1.out.trans (hw2.mono HW1.out.size)).trans (hw3.mono (HW1.out.trans (hw2.mono HW1.out.size)).size))
        | exact Lib.hid (HW1.out.trans (hw2.mono HW1.out.size))
        | exact HW1
  case rest =>
    obtain ⟨rfl, HW2⟩ := hcut
    rename World => w4
    cases hbad : (x.toList.isEmpty || (pt && y.toList.isEmpty) || !tx.toList.isEmpty || !ty.toList.isEmpty)
    · have hR := Lib.hid (hRg.out hbad)
      have hszc : w4.cell? ⟨A, 0, none⟩ = some (.int .i64 (sz : Int)) := by rw [HW2.out.cell (p := ⟨A, 0, none⟩) hA]; exact hsz
      have hspc : w4.cell? ⟨C, 0, none⟩ = some (.int .u8 (sep.toNat : Int)) := by rw [HW2.out.cell (p := ⟨C, 0, none⟩) hC]; exact hsp
      have hAc : A < w4.heap.size := Nat.lt_of_lt_of_le hA HW2.out.size
      have hCc : C < w4.heap.size := Nat.lt_of_lt_of_le hC HW2.out.size
      clear hbad hRb hRg hsz hsp hA hC
      go_upto_block 0 with (fail)
      go_cut [7, 10] (fun v7 v10 wl => ∃ (lb : ByteArray) (gs : List ByteArray), v7 = .string lb ∧ lb.size ≤ 160 ∧ GS gs v10 wl ∧ Hid (Below w4.heap.size w4 wl) ∧ Hid (Num.chunks sz x.data.toList [] = lb.data.toList :: gs.map (·.data.toList)) ∧ Hid (gs.length + lb.size ≤ 160))
      case first =>
        go_wp2_with (fail)
        go_loopw [7, 10] (fun v7 v10 wl => ∃ (lb : ByteArray) (gs : List ByteArray), v7 = .string lb ∧ lb.size ≤ 160 ∧ GS gs v10 wl ∧ Hid (Below w4.heap.size w4 wl) ∧ Hid (Num.chunks sz x.data.toList [] = Num.chunks sz lb.data.toList (gs.map (·.data.toList))) ∧ Hid (gs.length + lb.size ≤ 160)) (fun v7 _ _ => szOf v7)
        case atStart => exact ⟨x, [], rfl, by omega, .inl ⟨rfl, rfl⟩, Lib.hid (Below.refl _ _), rfl, Lib.hid (by simp; omega)⟩
        case round =>
          obtain ⟨lb, gs, rfl, hl, hGS, HB, HCH, HN⟩ := hrel
          have hszl : wr.cell? ⟨A, 0, none⟩ = some (.int .i64 (sz : Int)) := by rw [HB.out.cell (p := ⟨A, 0, none⟩) hAc]; exact hszc
          by_cases hgt : sz < lb.size
          · obtain ⟨g, cap, w2, hrun, hGS2, hB2⟩ := prepend wr (lb.extract (lb.size - sz) lb.size) gs _ hGS (by have := HN.out; omega)
            have HB2 : Hid (Below w4.heap.size w4 w2) := Lib.hid (HB.out.trans (hB2.mono HB.out.size))
            have hszl2 : w2.cell? ⟨A, 0, none⟩ = some (.int .i64 (sz : Int)) := by rw [HB2.out.cell (p := ⟨A, 0, none⟩) hAc]; exact hszc
            go_wp2_with (first | (at_builtin; refine wpList_plain rfl fun _ hK => Lib.wp_append_run _ _ _ 30 30 rfl _ _ rfl rfl _ _ hrun (hK _ _ ?_)))
            go_roundw
            case rel =>
              refine ⟨lb.extract 0 (lb.size - sz), lb.extract (lb.size - sz) lb.size :: gs, rfl, by rw [ByteArray.size_extract]; omega, hGS2, HB2, Lib.hid ?_, Lib.hid ?_⟩
              · have hll : lb.data.toList.length = lb.size := rfl
                rw [HCH.out, Num.chunks, dif_neg (by omega)]
                have e1 : (lb.extract 0 (lb.size - sz)).data.toList = lb.data.toList.take (lb.data.toList.length - sz) := by rw [Lib.extract_data, hll]; simp
                have e2 : (lb.extract (lb.size - sz) lb.size).data.toList = lb.data.toList.drop (lb.data.toList.length - sz) := by rw [Lib.extract_data, hll]; rw [List.take_of_length_le (Nat.le_of_eq (by rw [List.length_drop, hll]))]
                rw [List.map_cons, e1, e2]
              · have h := HN.out
                rw [List.length_cons, ByteArray.size_extract]
                omega
            case measure => simp [szOf, ByteArray.size_extract]; omega
          · go_wp2
            go_meet
            exact ⟨lb, gs, rfl, hl, hGS, HB, Lib.hid (by rw [HCH.out, Num.chunks, dif_pos (Or.inl (by show lb.size ≤ sz; omega))]), HN⟩
      case rest =>
        obtain ⟨lb, gs, rfl, hl, hGS, HB, HCH, HN⟩ := hcut
        have hspl : wc.cell? ⟨C, 0, none⟩ = some (.int .u8 (sep.toNat : Int)) := by rw [HB.out.cell (p := ⟨C, 0, none⟩) hCc]; exact hspc
        go_upto_region 9 with (fail)
        go_cut [11] (fun v11 wx => v11 = .string (s.extract 0 (s.size - b.size) ++ jb) ∧ Hid (Below w4.heap.size w4 wx))
        case first =>
          have kw : IntKind.i64.wrap ((s.size : Int) - (b.size : Int)) = ((s.size - b.size : Nat) : Int) := by
            rw [YtnjjilnfpdepoaaDoorW.PrintLast.i64_w]; unfold wrap64; omega
          have k4 : ((s.size - b.size : Nat) : Int) ≤ (s.size : Int) := by omega
          have k5 : ¬ (9223372036854775807 < s.size - b.size + jb.size) := by omega
          have hcv : ∀ (W : World) (k : Nat), W.cell? ⟨k, 0, none⟩ = some (.int .u8 (sep.toNat : Int)) → (convert 47 9 (.slice (some ⟨k, 0, none⟩) 1 1)).run Tryd.prog W = .ok (.string ⟨#[sep]⟩) W := fun W k h => one_byte_str _ _ sep h
          have hCw : C < wc.heap.size := Nat.lt_of_lt_of_le hCc HB.out.size
          have hLj : Hid (Lib.join ((lb :: gs).map (·.data.toList)) [sep] = jb.data.toList) := Lib.hid (by rw [← HJ.out, HCH.out]; rfl)
          go_region_law (first
            | (refine step_prepend_on wc rfl _ _ rfl rfl _ lb gs _ rfl rfl (by (repeat (first | with_reducible exact Below.refl _ _ | exact hB6w | with_reducible refine Below.drew ?_ | with_reducible refine Below.alloc ?_ (by (repeat (first | with_reducible exact Nat.le_refl _ | exact hsz6 | with_reducible refine le_drew ?_ | with_reducible refine le_past _ ?_)); first | done | fail) _)); first | done | fail) (by (repeat (first | with_reducible exact cell_new _ _ (by first | rfl | (simp; first | done | fail)) | with_reducible refine cell_drew ?_ | with_reducible refine cell_past _ ?_)); first | done | fail) (by (repeat (first | with_reducible exact lt_new _ (by first | rfl | (simp; first | done | fail)) | with_reducible refine lt_drew ?_ | with_reducible refine lt_past _ ?_)); first | done | fail) hGS (by have := HN.out; omega) ?_
               intro g cap w6 hGS6 hB6 hB6w
               have hsz6 := hB6w.size
               have hc6 : w6.cell? ⟨C, 0, none⟩ = some (.int .u8 (sep.toNat : Int)) := (hB6w.cell (p := ⟨C, 0, none⟩) hCw).trans hspl
               try (have hcs0 : w6.cell? ⟨wc.heap.size, 0, none⟩ = some (.int .u8 (sep.toNat : Int)) := (hB6.cell (p := ⟨wc.heap.size, 0, none⟩) (by (repeat (first | with_reducible exact lt_new _ (by first | rfl | (simp; first | done | fail)) | with_reducible refine lt_drew ?_ | with_reducible refine lt_past _ ?_)); first | done | fail)).trans (by (repeat (first | with_reducible exact cell_new _ _ (by first | rfl | (simp; first | done | fail)) | with_reducible refine cell_drew ?_ | with_reducible refine cell_past _ ?_)); first | done | fail))
               try (have hcs1 : w6.cell? ⟨wc.heap.size + 1, 0, none⟩ = some (.int .u8 (sep.toNat : Int)) := (hB6.cell (p := ⟨wc.heap.size + 1, 0, none⟩) (by (repeat (first | with_reducible exact lt_new _ (by first | rfl | (simp; first | done | fail)) | with_reducible refine lt_drew ?_ | with_reducible refine lt_past _ ?_)); first | done | fail)).trans (by (repeat (first | with_reducible exact cell_new _ _ (by first | rfl | (simp; first | done | fail)) | with_reducible refine cell_drew ?_ | with_reducible refine cell_past _ ?_)); first | done | fail)))
            | (go_simp
               go_at_call 26
               refine (join_gs (lb :: gs) sep jb g cap _ w6 wc _ rfl hGS6 (by (repeat (first | with_reducible exact Below.refl _ _ | exact hB6w | with_reducible refine Below.drew ?_ | with_reducible refine Below.alloc ?_ (by (repeat (first | with_reducible exact Nat.le_refl _ | exact hsz6 | with_reducible refine le_drew ?_ | with_reducible refine le_past _ ?_)); first | done | fail) _)); first | done | fail) (by (repeat (first | with_reducible exact Below.refl _ _ |  with_reducible refine Below.drew ?_ | with_reducible refine Below.alloc ?_ (by (repeat (first | exact Nat.le_refl _ |  with_reducible refine le_drew ?_ | with_reducible refine le_past _ ?_)); first | done | fail) _)); first | done | fail) hLj.out hjs (by have := HN.out; simp; omega)).mono ?_
               rintro e w7 ⟨rfl, hw7⟩))
          all_goals go_wp2
          all_goals go_meet
          all_goals exact ⟨rfl, Lib.hid (HB.out.trans (hw7.mono HB.out.size))⟩
        case rest =>
          obtain ⟨rfl, HB9⟩ := hcut
          go_wp2_with (first | (go_at_call 27; refine (h27.out _).mono ?_; rintro e w5 ⟨rfl, rfl⟩))
          go_ret2
          exact ⟨by rw [hR.out]; rfl, HW2.out.trans (HB9.out.mono HW2.out.size)⟩
    · have hR := Lib.hid (hRb.out hbad)
      go_wp2
      go_ret2
      exact ⟨by rw [hR.out]; rfl, HW2.out⟩

end Go.Proofs.YtnjjilnfpdepoaaDoor
