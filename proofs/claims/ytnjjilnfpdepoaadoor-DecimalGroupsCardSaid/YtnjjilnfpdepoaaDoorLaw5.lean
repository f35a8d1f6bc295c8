/-
  The walk of the law DecimalGroups, for every string, size and byte; one condition: internal/bytealg.MaxLen holds an int.
-/
import Derived.Test.YtnjjilnfpdepoaaDoorCloAny
import Derived.Deep.DeepCutAuto
namespace Go.Proofs.YtnjjilnfpdepoaaDoor
open Go.RowKit
set_option maxRecDepth 100000

/-- The law's two boxed variables stand where they were laid. -/
def Ok5 (w : World) (size : Int) (sep : UInt8) (wx : World) : Prop :=
  wx.cell? ⟨w.heap.size, 0, none⟩ = some (.int .i64 size) ∧ wx.cell? ⟨w.heap.size + 1, 0, none⟩ = some (.int .u8 (sep.toNat : Int)) ∧ w.heap.size + 1 < wx.heap.size ∧ Hid (Below w.heap.size w wx)

theorem Ok5.step {w : World} {size : Int} {sep : UInt8} {wx wy : World} (h : Ok5 w size sep wx) (hb : Below wx.heap.size wx wy) : Ok5 w size sep wy := by
  obtain ⟨h1, h2, h3, h4⟩ := h
  exact ⟨(hb.cell (p := ⟨w.heap.size, 0, none⟩) (by show w.heap.size < _; omega)).trans h1, (hb.cell (p := ⟨w.heap.size + 1, 0, none⟩) (by show w.heap.size + 1 < _; omega)).trans h2, Nat.lt_of_lt_of_le h3 hb.size, Lib.hid (h4.out.trans (hb.mono h4.out.size))⟩

theorem Ok5.calls {w : World} {size : Int} {sep : UInt8} {f : FuncId} {args : Array Value} {R : Ending} (hc : ∀ wx, Calls Tryd.prog f args wx fun e w' => e = R ∧ Below wx.heap.size wx w') :
    Hid (∀ wx, Ok5 w size sep wx → Calls Tryd.prog f args wx fun e w' => e = R ∧ Ok5 w size sep w') :=
  Lib.hid fun wx ok => (hc wx).mono fun _ _ ⟨h, hb⟩ => ⟨h, ok.step hb⟩

theorem bad_iff5 (size : Int) (sep : UInt8) : Num.badArg size sep ↔ (size < 1 ∨ 15 < size ∨ sep.toNat = 45 ∨ sep.toNat = 46 ∨ (48 ≤ sep.toNat ∧ sep.toNat ≤ 57) ∨ (97 ≤ sep.toNat ∧ sep.toNat ≤ 122)) := by
  have : ∀ i : Fin 256, 0 ≤ Num.val (UInt8.ofNat i.val) ↔ ((48 ≤ i.val ∧ i.val ≤ 57) ∨ (97 ≤ i.val ∧ i.val ≤ 122)) := by decide +kernel
  have h := this ⟨sep.toNat, sep.toNat_lt⟩
  simp only [UInt8.ofNat_toNat] at h
  unfold Num.badArg
  rw [h]
  omega

set_option maxHeartbeats 3200000 in
theorem law_walk (s t u x cl cl2 : ByteArray) (e g : Int) (ok ok2 bd : Bool) (size : Int) (sep : UInt8) (w : World)
   (hbd : Hid (bd = decide (size < 1 ∨ 15 < size ∨ sep.toNat = 45 ∨ sep.toNat = 46 ∨ (48 ≤ sep.toNat ∧ sep.toNat ≤ 57) ∨ (97 ≤ sep.toNat ∧ sep.toNat ≤ 122))))
   (h17 : Hid (∀ wx, Ok5 w size sep wx → Calls Tryd.prog 17 #[] wx fun e w' => e = .returned (.bool true) ∧ Ok5 w size sep w'))
   (h28 : Hid (∀ wx, Ok5 w size sep wx → Calls Tryd.prog 28 #[.string s, .int .i64 size, .int .u8 (sep.toNat : Int)] wx fun e' w' => e' = .returned (.tuple #[.string t, .int .i64 e]) ∧ Ok5 w size sep w'))
   (h29 : Hid (∀ wx, Ok5 w size sep wx → Calls Tryd.prog 29 #[.string s, .int .i64 size, .int .u8 (sep.toNat : Int)] wx fun e' w' => e' = .returned (.tuple #[.string u, .int .i64 g]) ∧ Ok5 w size sep w'))
   (h22 : Hid (bd = false → s.size ≤ 80 → ∀ wx, Ok5 w size sep wx → Calls Tryd.prog 22 #[.string s, .pointer (some ⟨w.heap.size, 0, none⟩), .pointer (some ⟨w.heap.size + 1, 0, none⟩)] wx fun e' w' => e' = .returned (.tuple #[.string cl, .bool ok]) ∧ Ok5 w size sep w'))
   (h22x : Hid (bd = false → s.size ≤ 160 → ∀ wx, Ok5 w size sep wx → Calls Tryd.prog 22 #[.string x, .pointer (some ⟨w.heap.size, 0, none⟩), .pointer (some ⟨w.heap.size + 1, 0, none⟩)] wx fun e' w' => e' = .returned (.tuple #[.string cl2, .bool ok2]) ∧ Ok5 w size sep w'))
   (h30 : Hid (s.size ≤ 160 → ∀ wx, Ok5 w size sep wx → Calls Tryd.prog 30 #[.string s, .string ⟨#[sep]⟩] wx fun e' w' => ∃ k n, e' = .returned (.slice (some ⟨k, 0, none⟩) n n) ∧ Hid (Calls Tryd.prog 26 #[.slice (some ⟨k, 0, none⟩) n n, .string ⟨#[]⟩] w' fun e2 w2 => e2 = .returned (.string x) ∧ Ok5 w size sep w2)))
   (hB : Hid (bd = true → t = ⟨#[]⟩ ∧ e = 1 ∧ u = ⟨#[]⟩ ∧ g = 1))
   (hT : Hid (bd = false → if s.size ≤ 80 then t = cl ∧ e = (if ok then 0 else 14) else t = ⟨#[]⟩ ∧ e = 2))
   (hU : Hid (bd = false → if s.size ≤ 160 then (if ok2 = true ∧ cl2 = s ∧ x.size ≤ 80 then u = x ∧ g = 0 else u = ⟨#[]⟩ ∧ g = 14) else u = ⟨#[]⟩ ∧ g = 2)) :
    Calls Tryd.prog 5 #[.string s, .int .i64 size, .int .u8 (sep.toNat : Int)] w fun e w' => e = .returned (.bool true) ∧ Below w.heap.size w w' := by
  have hsep : sep.toNat < 256 := sep.toNat_lt
  go_enter Tryd.func5, Tryd.ntmps5
  have hOk : Ok5 w size sep ((w.alloc (.cells #[.int .i64 size] 3)).alloc (.cells #[.int .u8 (sep.toNat : Int)] 5)) :=
    ⟨cell_past _ (cell_new _ _ rfl), cell_new _ _ (by simp), lt_new _ (by simp), Lib.hid (((Below.refl _ _).alloc (Nat.le_refl _) _).alloc (by simp) _)⟩
  go_upto_region 2 with (fail)
  go_cut [8] (fun v8 wx => v8 = .bool bd ∧ Ok5 w size sep wx)
  case first =>
    by_cases c1 : size < 1
    · obtain rfl : bd = true := by rw [hbd.out]; simp; omega
      clear hbd
      go_wp2
      go_meet
      exact ⟨rfl, hOk⟩
    · by_cases c2 : 15 < size
      · obtain rfl : bd = true := by rw [hbd.out]; simp; omega
        clear hbd
        go_wp2
        go_meet
        exact ⟨rfl, hOk⟩
      · by_cases c3 : sep.toNat = 45
        · have b3 : ((sep.toNat : Int) == 45) = true := by rw [beq_iff_eq]; omega
          obtain rfl : bd = true := by rw [hbd.out]; simp; omega
          clear hbd c3
          go_wp2
          go_meet
          exact ⟨rfl, hOk⟩
        · have b3 : ((sep.toNat : Int) == 45) = false := by rw [beq_eq_false_iff_ne]; omega
          by_cases c4 : sep.toNat = 46
          · have b4 : ((sep.toNat : Int) == 46) = true := by rw [beq_iff_eq]; omega
            obtain rfl : bd = true := by rw [hbd.out]; simp; omega
            clear hbd c4
            go_wp2
            go_meet
            exact ⟨rfl, hOk⟩
          · have b4 : ((sep.toNat : Int) == 46) = false := by rw [beq_eq_false_iff_ne]; omega
            by_cases c5 : 48 ≤ sep.toNat ∧ sep.toNat ≤ 57
            · have b5 : decide ((48 : Int) ≤ (sep.toNat : Int)) = true := decide_eq_true (by omega)
              have b6 : decide ((sep.toNat : Int) ≤ 57) = true := decide_eq_true (by omega)
              obtain rfl : bd = true := by rw [hbd.out]; simp; omega
              clear hbd
              go_wp2
              go_meet
              exact ⟨rfl, hOk⟩
            · by_cases c6 : 97 ≤ sep.toNat ∧ sep.toNat ≤ 122
              · have b5 : decide ((48 : Int) ≤ (sep.toNat : Int)) = true := decide_eq_true (by omega)
                have b6 : decide ((sep.toNat : Int) ≤ 57) = false := decide_eq_false (by omega)
                have b7 : decide ((97 : Int) ≤ (sep.toNat : Int)) = true := decide_eq_true (by omega)
                have b8 : decide ((sep.toNat : Int) ≤ 122) = true := decide_eq_true (by omega)
                obtain rfl : bd = true := by rw [hbd.out]; simp; omega
                clear hbd
                go_wp2
                go_meet
                exact ⟨rfl, hOk⟩
              · by_cases c7 : sep.toNat < 48
                · have b5 : decide ((48 : Int) ≤ (sep.toNat : Int)) = false := decide_eq_false (by omega)
                  have b7 : decide ((97 : Int) ≤ (sep.toNat : Int)) = false := decide_eq_false (by omega)
                  obtain rfl : bd = false := by rw [hbd.out]; simp; omega
                  clear hbd
                  go_wp2
                  go_meet
                  exact ⟨rfl, hOk⟩
                · have b5 : decide ((48 : Int) ≤ (sep.toNat : Int)) = true := decide_eq_true (by omega)
                  have b6 : decide ((sep.toNat : Int) ≤ 57) = false := decide_eq_false (by omega)
                  by_cases c8 : sep.toNat < 97
                  · have b7 : decide ((97 : Int) ≤ (sep.toNat : Int)) = false := decide_eq_false (by omega)
                    obtain rfl : bd = false := by rw [hbd.out]; simp; omega
                    clear hbd
                    go_wp2
                    go_meet
                    exact ⟨rfl, hOk⟩
                  · have b7 : decide ((97 : Int) ≤ (sep.toNat : Int)) = true := decide_eq_true (by omega)
                    have b8 : decide ((sep.toNat : Int) ≤ 122) = false := decide_eq_false (by omega)
                    obtain rfl : bd = false := by rw [hbd.out]; simp; omega
                    clear hbd
                    go_wp2
                    go_meet
                    exact ⟨rfl, hOk⟩
  case rest =>
    obtain ⟨rfl, cA, cC, hlt, HB⟩ := hcut
    cases bd
    · clear hB
      replace hT := Lib.hid (hT.out rfl)
      replace hU := Lib.hid (hU.out rfl)
      replace h22 := Lib.hid (h22.out rfl)
      replace h22x := Lib.hid (h22x.out rfl)
      rename World => wz
      go_upto_if 86 with (first | (go_at_call 28; refine (h28.out _ ⟨cA, cC, hlt, HB⟩).mono ?_; rintro e' w' ⟨rfl, cA, cC, hlt, HB⟩) | (go_at_call 29; refine (h29.out _ ⟨cA, cC, hlt, HB⟩).mono ?_; rintro e' w' ⟨rfl, cA, cC, hlt, HB⟩))
      go_cut [13, 14] (fun v13 v14 wx => v13 = .string t ∧ v14 = .int .i64 e ∧ Ok5 w size sep wx)
      case first =>
        by_cases c : s.size ≤ 80
        · have h := hT.out
          rw [if_pos c] at h
          obtain ⟨rfl, rfl⟩ := h
          clear hT
          cases ok
          · go_wp2_with (first | (go_at_call 22; refine (h22.out c _ ⟨cA, cC, hlt, HB⟩).mono ?_; rintro e' w' ⟨rfl, cA, cC, hlt, HB⟩))
            go_meet
            exact ⟨rfl, rfl, cA, cC, hlt, HB⟩
          · go_wp2_with (first | (go_at_call 22; refine (h22.out c _ ⟨cA, cC, hlt, HB⟩).mono ?_; rintro e' w' ⟨rfl, cA, cC, hlt, HB⟩))
            go_meet
            exact ⟨rfl, rfl, cA, cC, hlt, HB⟩
        · have h := hT.out
          rw [if_neg c] at h
          obtain ⟨rfl, rfl⟩ := h
          clear hT
          go_wp2
          go_meet
          exact ⟨rfl, rfl, cA, cC, hlt, HB⟩
      case rest =>
        obtain ⟨rfl, rfl, cA, cC, hlt, HB⟩ := hcut
        clear hT
        rename World => wy
        go_upto_if 96 with (fail)
        go_cut [16, 17] (fun v16 v17 wx => v16 = .string u ∧ v17 = .int .i64 g ∧ Ok5 w size sep wx)
        case first =>
          have hcv : ∀ (W : World) (k : Nat), W.cell? ⟨k, 0, none⟩ = some (.int .u8 (sep.toNat : Int)) → (convert 47 9 (.slice (some ⟨k, 0, none⟩) 1 1)).run Tryd.prog W = .ok (.string ⟨#[sep]⟩) W := fun W k h => one_byte_str _ _ sep h
          by_cases c : s.size ≤ 160
          · have h := hU.out
            rw [if_pos c] at h
            clear hU
            by_cases h2 : ok2 = true ∧ cl2 = s ∧ x.size ≤ 80
            · rw [if_pos h2] at h
              obtain ⟨rfl, rfl⟩ := h
              obtain ⟨rfl, rfl, h3⟩ := h2
              go_wp2_with (first | (go_at_call 30; refine (h30.out c _ (Ok5.step ⟨cA, cC, hlt, HB⟩ (by (repeat (first | with_reducible exact Below.refl _ _ | with_reducible refine Below.drew ?_ | with_reducible refine Below.alloc ?_ (Nat.le_refl _) _)); first | done | fail))).mono ?_; rintro e' w' ⟨k, n, rfl, h26⟩) | (go_at_call 26; refine h26.out.mono ?_; rintro e' w' ⟨rfl, cA, cC, hlt, HB⟩) | (go_at_call 22; refine (h22x.out c _ ⟨cA, cC, hlt, HB⟩).mono ?_; rintro e' w' ⟨rfl, cA, cC, hlt, HB⟩))
              go_meet
              exact ⟨rfl, rfl, cA, cC, hlt, HB⟩
            · rw [if_neg h2] at h
              obtain ⟨rfl, rfl⟩ := h
              cases ok2
              · clear h2
                go_wp2_with (first | (go_at_call 30; refine (h30.out c _ (Ok5.step ⟨cA, cC, hlt, HB⟩ (by (repeat (first | with_reducible exact Below.refl _ _ | with_reducible refine Below.drew ?_ | with_reducible refine Below.alloc ?_ (Nat.le_refl _) _)); first | done | fail))).mono ?_; rintro e' w' ⟨k, n, rfl, h26⟩) | (go_at_call 26; refine h26.out.mono ?_; rintro e' w' ⟨rfl, cA, cC, hlt, HB⟩) | (go_at_call 22; refine (h22x.out c _ ⟨cA, cC, hlt, HB⟩).mono ?_; rintro e' w' ⟨rfl, cA, cC, hlt, HB⟩))
                go_meet
                exact ⟨rfl, rfl, cA, cC, hlt, HB⟩
              · by_cases h3 : cl2 = s
                · subst h3
                  have h4 : ¬ x.size ≤ 80 := fun h => h2 ⟨rfl, rfl, h⟩
                  clear h2
                  go_wp2_with (first | (go_at_call 30; refine (h30.out c _ (Ok5.step ⟨cA, cC, hlt, HB⟩ (by (repeat (first | with_reducible exact Below.refl _ _ | with_reducible refine Below.drew ?_ | with_reducible refine Below.alloc ?_ (Nat.le_refl _) _)); first | done | fail))).mono ?_; rintro e' w' ⟨k, n, rfl, h26⟩) | (go_at_call 26; refine h26.out.mono ?_; rintro e' w' ⟨rfl, cA, cC, hlt, HB⟩) | (go_at_call 22; refine (h22x.out c _ ⟨cA, cC, hlt, HB⟩).mono ?_; rintro e' w' ⟨rfl, cA, cC, hlt, HB⟩))
                  go_meet
                  exact ⟨rfl, rfl, cA, cC, hlt, HB⟩
                · have h4 : (cl2.toList == s.toList) = false := (Lib.bytes_beq_false_iff cl2 s).2 h3
                  clear h2 h3
                  go_wp2_with (first | (go_at_call 30; refine (h30.out c _ (Ok5.step ⟨cA, cC, hlt, HB⟩ (by (repeat (first | with_reducible exact Below.refl _ _ | with_reducible refine Below.drew ?_ | with_reducible refine Below.alloc ?_ (Nat.le_refl _) _)); first | done | fail))).mono ?_; rintro e' w' ⟨k, n, rfl, h26⟩) | (go_at_call 26; refine h26.out.mono ?_; rintro e' w' ⟨rfl, cA, cC, hlt, HB⟩) | (go_at_call 22; refine (h22x.out c _ ⟨cA, cC, hlt, HB⟩).mono ?_; rintro e' w' ⟨rfl, cA, cC, hlt, HB⟩))
                  go_meet
                  exact ⟨rfl, rfl, cA, cC, hlt, HB⟩
          · have h := hU.out
            rw [if_neg c] at h
            obtain ⟨rfl, rfl⟩ := h
            clear hU
            go_wp2
            go_meet
            exact ⟨rfl, rfl, cA, cC, hlt, HB⟩
        case rest =>
          obtain ⟨rfl, rfl, cA, cC, hlt, HB⟩ := hcut
          go_wp2_with (first | (go_at_call 17; refine (h17.out _ ⟨cA, cC, hlt, HB⟩).mono ?_; rintro e' w' ⟨rfl, cA, cC, hlt, HB⟩))
          go_ret
          exact ⟨rfl, HB.out⟩
    · obtain ⟨rfl, rfl, rfl, rfl⟩ := hB.out rfl
      clear hB hT hU
      go_wp2_with (first | (go_at_call 28; refine (h28.out _ ⟨cA, cC, hlt, HB⟩).mono ?_; rintro e' w' ⟨rfl, cA, cC, hlt, HB⟩) | (go_at_call 29; refine (h29.out _ ⟨cA, cC, hlt, HB⟩).mono ?_; rintro e' w' ⟨rfl, cA, cC, hlt, HB⟩) | (go_at_call 17; refine (h17.out _ ⟨cA, cC, hlt, HB⟩).mono ?_; rintro e' w' ⟨rfl, cA, cC, hlt, HB⟩))
      go_ret
      exact ⟨rfl, HB.out⟩

theorem splitB_length1 (s : ByteArray) (sep : UInt8) : ∀ n, (Lib.splitB ⟨#[sep]⟩ 0 n s).length ≤ n + 1 := fun n => Lib.splitB_length_le _ _ n s

theorem splitK_count (sep : List UInt8) (hne : sep ≠ []) : ∀ (n : Nat) (s : List UInt8), n = Lib.count s sep → (Lib.splitK sep 0 n s).length = n + 1
  | 0, s, _ => rfl
  | n + 1, s, h => by
    obtain ⟨i, hi⟩ := Lib.index_of_count (s := s) (old := sep) (by omega)
    have h2 := Lib.count_hit hne hi
    unfold Lib.splitK
    have hm : ¬ (Lib.index s sep == -1) = true := fun e => by have := beq_iff_eq.1 e; omega
    rw [if_neg hm, List.length_cons, splitK_count sep hne n _ (by rw [show (Lib.index s sep).toNat = i by omega]; omega)]

theorem split_contract (s : ByteArray) (size : Int) (sep : UInt8) (m : Int) (w : World) (hs : s.size ≤ 140737488351232) (hs2 : s.size ≤ 160) (hm : w.cell? ⟨0, 0, none⟩ = some (.int .i64 m)) (wx : World) (ok : Ok5 w size sep wx) :
    Calls Tryd.prog 30 #[.string s, .string ⟨#[sep]⟩] wx fun e' w' => ∃ k n, e' = .returned (.slice (some ⟨k, 0, none⟩) n n) ∧ Hid (Calls Tryd.prog 26 #[.slice (some ⟨k, 0, none⟩) n n, .string ⟨#[]⟩] w' fun e2 w2 => e2 = .returned (.string ⟨(Lib.replaceAll s.data.toList [sep] []).toArray⟩) ∧ Ok5 w size sep w2) := by
  refine (Tryd.strings_Split s ⟨#[sep]⟩ m wx (by omega) (cell_below hm ok.2.2.2.out) (Nat.le_refl _)).mono ?_
  rintro e' w' ⟨rfl, rfl⟩
  refine ⟨wx.heap.size, Lib.countB s ⟨#[sep]⟩ + 1, rfl, Lib.hid ?_⟩
  obtain ⟨xs, hxs⟩ : ∃ xs, xs = Lib.splitB ⟨#[sep]⟩ 0 (Lib.countB s ⟨#[sep]⟩) s := ⟨_, rfl⟩
  have hdat : xs.map (·.data.toList) = Lib.split s.data.toList [sep] := by rw [hxs, Lib.splitB_data]; rfl
  have hlen : xs.length = Lib.countB s ⟨#[sep]⟩ + 1 := by
    have h1 := congrArg List.length hdat
    rw [List.length_map] at h1
    rw [h1]
    exact splitK_count [sep] (by simp) _ _ rfl
  rw [← hxs, ← hlen]
  have hb : Below wx.heap.size wx (wx.alloc (.cells (xs.map Value.string).toArray 9)) := (Below.refl _ _).alloc (Nat.le_refl _) _
  have hj := split_join s.data.toList sep
  have hlr := replaceAll_length s.data.toList sep
  have hl : s.data.toList.length = s.size := rfl
  have hJ := Tryd.strings_Join wx.heap.size 0 xs.length xs ⟨#[]⟩ (wx.alloc (.cells (xs.map Value.string).toArray 9)) (fun j x hx => by
      have hn := heap_alloc_new wx (.cells (xs.map Value.string).toArray 9)
      simp only [World.cell?, hn, Nat.zero_add]
      rw [List.getElem?_toArray, List.getElem?_map, hx]; rfl) (lt_new _ rfl) (by
      have h3 := Lib.count_le s.data.toList [sep]
      have h4 : Lib.countB s ⟨#[sep]⟩ = Lib.count s.data.toList [sep] := rfl
      omega) (Nat.le_refl _) (by rw [hdat]; show (Lib.join (Lib.split s.data.toList [sep]) []).length ≤ _; rw [hj]; omega)
  refine hJ.mono ?_
  rintro e2 w2 ⟨rfl, hb2⟩
  refine ⟨?_, ok.step (hb.trans (hb2.mono hb.size))⟩
  rw [hdat]
  show Ending.returned (.string ⟨(Lib.join (Lib.split s.data.toList [sep]) []).toArray⟩) = _
  rw [hj]

theorem law_any (s : ByteArray) (size : Int) (sep : UInt8) (m : Int) (w : World) (hs : s.size ≤ 140737488351232) (hm : w.cell? ⟨0, 0, none⟩ = some (.int .i64 m)) :
    Calls Tryd.prog 5 #[.string s, .int .i64 size, .int .u8 (sep.toNat : Int)] w fun e w' => e = .returned (.bool true) ∧ Below w.heap.size w w' := by
  have hl : s.data.toList.length = s.size := rfl
  have hsz' : ∀ l : List UInt8, (⟨l.toArray⟩ : ByteArray).size = l.length := fun l => by show l.toArray.size = _; simp
  have hxl := replaceAll_length s.data.toList sep
  obtain ⟨X, hX⟩ : ∃ X, X = Lib.replaceAll s.data.toList [sep] [] := ⟨_, rfl⟩
  have hbi := bad_iff5 size sep
  have hb0 : ∀ b : Bool, b = decide (size < 1 ∨ 15 < size ∨ sep.toNat = 45 ∨ sep.toNat = 46 ∨ (48 ≤ sep.toNat ∧ sep.toNat ≤ 57) ∨ (97 ≤ sep.toNat ∧ sep.toNat ≤ 122)) → (b = true ↔ Num.badArg size sep) := by
    intro b hb; rw [hb, decide_eq_true_iff]; exact hbi.symm
  obtain ⟨bd, hbd⟩ : ∃ bd, bd = decide (size < 1 ∨ 15 < size ∨ sep.toNat = 45 ∨ sep.toNat = 46 ∨ (48 ≤ sep.toNat ∧ sep.toNat ≤ 57) ∨ (97 ≤ sep.toNat ∧ sep.toNat ≤ 122)) := ⟨_, rfl⟩
  have hbad := hb0 bd hbd
  have hnb : bd = false → ∃ sz : Nat, size = sz ∧ 1 ≤ sz ∧ sz ≤ 15 ∧ ¬ Num.badArg size sep := by
    intro h
    have h2 : ¬ Num.badArg size sep := fun hc => by rw [hbad.2 hc] at h; cases h
    have h3 := h2
    unfold Num.badArg at h3
    exact ⟨size.toNat, by omega, by omega, by omega, h2⟩
  refine law_walk s ⟨(Num.groupN s.data.toList size sep).1.toArray⟩ ⟨(Num.ungroupN s.data.toList size sep).1.toArray⟩ ⟨X.toArray⟩ ⟨(Num.clo s.data.toList size.toNat sep).1.toArray⟩ ⟨(Num.clo X size.toNat sep).1.toArray⟩
    (Num.groupN s.data.toList size sep).2 (Num.ungroupN s.data.toList size sep).2 (Num.clo s.data.toList size.toNat sep).2 (Num.clo X size.toNat sep).2 bd size sep w (Lib.hid hbd)
    (Ok5.calls numbered17) (Ok5.calls fun wx => group_any s size sep wx)
    (Lib.hid fun wx ok => (ungroup_any s size sep m wx (cell_below hm ok.2.2.2.out)).mono fun _ _ ⟨h, hb⟩ => ⟨h, ok.step hb⟩)
    (Lib.hid fun h hs80 wx ok => by
      obtain ⟨sz, rfl, h1, h2, _⟩ := hnb h
      obtain ⟨cA, cC, hlt, HB⟩ := ok
      exact (clo_any s sz _ _ sep wx h1 h2 (by omega) (by omega) hlt cA cC).mono fun _ _ ⟨h, hb⟩ => ⟨h, Ok5.step ⟨cA, cC, hlt, HB⟩ hb⟩)
    (Lib.hid fun h hs160 wx ok => by
      obtain ⟨sz, rfl, h1, h2, _⟩ := hnb h
      obtain ⟨cA, cC, hlt, HB⟩ := ok
      exact (clo_any ⟨X.toArray⟩ sz _ _ sep wx h1 h2 (by rw [hsz', hX]; omega) (by omega) hlt cA cC).mono fun _ _ ⟨h, hb⟩ => ⟨h, Ok5.step ⟨cA, cC, hlt, HB⟩ hb⟩)
    ?_ ?_ ?_ ?_
  · exact Lib.hid fun h160 wx ok => by rw [hX]; exact split_contract s size sep m w hs h160 hm wx ok
  · refine Lib.hid fun h => ?_
    have hb := hbad.1 h
    have e1 : Num.groupN s.data.toList size sep = ([], 1) := by unfold Num.groupN; rw [if_pos hb]
    have e2 : Num.ungroupN s.data.toList size sep = ([], 1) := by unfold Num.ungroupN; rw [if_pos hb]
    rw [e1, e2]; exact ⟨rfl, rfl, rfl, rfl⟩
  · refine Lib.hid fun h => ?_
    obtain ⟨sz, rfl, h1, h2, hb⟩ := hnb h
    by_cases c : s.size ≤ 80
    · rw [if_pos c]
      have e1 : Num.groupN s.data.toList sz sep = Num.grp s.data.toList sz sep := by unfold Num.groupN; rw [if_neg hb, if_neg (by omega)]; rfl
      rw [e1, grp_clo _ _ _ h1]
      cases h5 : (Num.clo s.data.toList sz sep).2
      · simp [h5]
      · simp [h5]
    · rw [if_neg c]
      have e1 : Num.groupN s.data.toList sz sep = ([], 2) := by unfold Num.groupN; rw [if_neg hb, if_pos (by omega)]
      rw [e1]; exact ⟨rfl, rfl⟩
  · refine Lib.hid fun h => ?_
    obtain ⟨sz, rfl, h1, h2, hb⟩ := hnb h
    by_cases c : s.size ≤ 160
    · rw [if_pos c]
      have e1 : Num.ungroupN s.data.toList sz sep = if (Num.groupN X sz sep).2 = 0 ∧ (Num.groupN X sz sep).1 = s.data.toList then (X, 0) else ([], 14) := by
        unfold Num.ungroupN; rw [if_neg hb, if_neg (by omega), ← hX]
      rw [e1]
      have e2 : Num.groupN X sz sep = if 80 < X.length then ([], 2) else if (Num.clo X sz sep).2 then ((Num.clo X sz sep).1, 0) else ((Num.clo X sz sep).1, 14) := by
        unfold Num.groupN; rw [if_neg hb, ← grp_clo _ _ _ h1]; rfl
      have hsx : (⟨X.toArray⟩ : ByteArray).size = X.length := hsz' X
      have hbe : ((⟨(Num.clo X sz sep).1.toArray⟩ : ByteArray) = s) ↔ (Num.clo X sz sep).1 = s.data.toList := by
        constructor
        · intro h; exact congrArg (fun b : ByteArray => b.data.toList) h
        · intro h; rw [h]
      rw [e2, hsx]
      show if (Num.clo X sz sep).2 = true ∧ (⟨(Num.clo X sz sep).1.toArray⟩ : ByteArray) = s ∧ X.length ≤ 80 then _ else _
      by_cases hc : (Num.clo X sz sep).2 = true ∧ (⟨(Num.clo X sz sep).1.toArray⟩ : ByteArray) = s ∧ X.length ≤ 80
      · rw [if_pos hc]
        obtain ⟨h5, h6, h7⟩ := hc
        have E : (if 80 < X.length then (([] : List UInt8), (2 : Int)) else if (Num.clo X sz sep).2 = true then ((Num.clo X sz sep).1, 0) else ((Num.clo X sz sep).1, 14)) = ((Num.clo X sz sep).1, 0) := by
          rw [if_neg (show ¬ 80 < X.length by omega), if_pos h5]
        rw [E, if_pos ⟨rfl, hbe.1 h6⟩]
        exact ⟨rfl, rfl⟩
      · rw [if_neg hc]
        have : ¬ ((if 80 < X.length then (([] : List UInt8), (2 : Int)) else if (Num.clo X sz sep).2 = true then ((Num.clo X sz sep).1, 0) else ((Num.clo X sz sep).1, 14)).2 = 0 ∧ (if 80 < X.length then (([] : List UInt8), (2 : Int)) else if (Num.clo X sz sep).2 = true then ((Num.clo X sz sep).1, 0) else ((Num.clo X sz sep).1, 14)).1 = s.data.toList) := by
          by_cases c8 : 80 < X.length
          · rw [if_pos c8]; rintro ⟨h, _⟩; cases h
          · rw [if_neg c8]
            cases h5 : (Num.clo X sz sep).2
            · rintro ⟨h, _⟩; simp at h
            · rintro ⟨_, h⟩; simp at h
              exact hc ⟨h5, hbe.2 h, by omega⟩
        rw [if_neg this]; exact ⟨rfl, rfl⟩
    · rw [if_neg c]
      have e1 : Num.ungroupN s.data.toList sz sep = ([], 2) := by unfold Num.ungroupN; rw [if_neg hb, if_pos (by omega)]
      rw [e1]; exact ⟨rfl, rfl⟩

end Go.Proofs.YtnjjilnfpdepoaaDoor
