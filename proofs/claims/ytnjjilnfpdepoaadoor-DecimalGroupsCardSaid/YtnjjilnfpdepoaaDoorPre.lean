/-
  A string put before a row of strings: append([]string{x}, gs...), for every row.
-/
import Derived.Test.YtnjjilnfpdepoaaDoorProg
import Derived.Deep.AppendSrc
import Derived.Deep.Upon
import Derived.Laws.AppendOwn
import Derived.OwnWalk
import Derived.Below
import Derived.WalkKit
import Derived.Lib.AppendZeros
import Derived.Deep.RegionLaw
namespace Go.Proofs.YtnjjilnfpdepoaaDoor
open Go.RowKit
set_option maxRecDepth 100000

/-- A slice value that holds these strings. -/
def GS (gs : List ByteArray) (v : Value) (w : World) : Prop :=
  (gs = [] ∧ v = .slice none 0 0) ∨ ∃ g cap, v = .slice (some ⟨g, 0, none⟩) gs.length cap ∧ gs.length ≤ cap ∧ g < w.heap.size ∧ ∀ (j : Nat) x, gs[j]? = some x → w.cell? ⟨g, j, none⟩ = some (.string x)

theorem GS.below {gs : List ByteArray} {v : Value} {w w' : World} (h : GS gs v w) (hb : Below w.heap.size w w') : GS gs v w' := by
  rcases h with h | ⟨g, cap, h1, h2, h3, h4⟩
  · exact .inl h
  · exact .inr ⟨g, cap, h1, h2, Nat.lt_of_lt_of_le h3 hb.size, fun j x hx => by rw [hb.cell (p := ⟨g, j, none⟩) h3]; exact h4 j x hx⟩

theorem info_str : (Tryd.prog.info? 9).map (fun i => (i.zero, i.size, i.bytes)) = some (some (.string ⟨#[]⟩), 1, 16) := by kernel_rfl

theorem one_new (W : World) (x : ByteArray) : (W.alloc (.cells #[.string x] 9)).cell? ⟨W.heap.size, 0, none⟩ = some (.string x) := by
  have hn := heap_alloc_new W (.cells #[.string x] 9)
  simp only [World.cell?, hn]
  rfl

/-! ### Blocks and cells behind a draw or a new block -/
theorem lt_drew {k : Nat} {w : World} (h : k < w.heap.size) : k < w.drew.heap.size := h
theorem lt_past {k : Nat} {w : World} (o : Obj) (h : k < w.heap.size) : k < (w.alloc o).heap.size := by show k < (w.heap.push o).size; rw [Array.size_push]; omega
theorem lt_new {k : Nat} {w : World} (o : Obj) (h : k = w.heap.size) : k < (w.alloc o).heap.size := by show k < (w.heap.push o).size; rw [Array.size_push]; omega
theorem le_drew {k : Nat} {w : World} (h : k ≤ w.heap.size) : k ≤ w.drew.heap.size := h
theorem le_past {k : Nat} {w : World} (o : Obj) (h : k ≤ w.heap.size) : k ≤ (w.alloc o).heap.size := by show k ≤ (w.heap.push o).size; rw [Array.size_push]; omega
theorem cell_drew {p : Addr} {v : Value} {w : World} (h : w.cell? p = some v) : w.drew.cell? p = some v := h
theorem cell_past {k : Nat} {v : Value} {w : World} (o : Obj) (h : w.cell? ⟨k, 0, none⟩ = some v) : (w.alloc o).cell? ⟨k, 0, none⟩ = some v := by
  have h0 : k < w.heap.size := by
    rcases Nat.lt_or_ge k w.heap.size with h1 | h1
    · exact h1
    · have hn : w.heap[k]? = none := Array.getElem?_eq_none h1
      simp [World.cell?, hn] at h
  have := heap_alloc_old w o h0
  simp only [World.cell?] at h ⊢
  rw [this]; exact h
theorem cell_new {k : Nat} {w : World} (x : Value) (t : TypeId) (hk : k = w.heap.size) : (w.alloc (.cells #[x] t)).cell? ⟨k, 0, none⟩ = some x := by
  subst hk
  have hn := heap_alloc_new w (.cells #[x] t)
  simp only [World.cell?, hn]
  rfl

theorem prepend (W : World) (x : ByteArray) (gs : List ByteArray) (v : Value) (h : GS gs v W) (hl : gs.length ≤ 1000) :
    ∃ g cap w', (Builtin.append_ #[30, 30] 30 #[.slice (some ⟨W.heap.size, 0, none⟩) 1 1, v]).run Tryd.prog (W.alloc (.cells #[.string x] 9)) = .ok (.slice (some ⟨g, 0, none⟩) (gs.length + 1) cap) w' ∧
      GS (x :: gs) (.slice (some ⟨g, 0, none⟩) (gs.length + 1) cap) w' ∧ Below W.heap.size W w' := by
  obtain ⟨i, hi, hz0, hz1, hz2⟩ := info_parts info_str
  have hB1 : Below W.heap.size W (W.alloc (.cells #[.string x] 9)) := (Below.refl _ _).alloc (Nat.le_refl _) _
  have hsrc : Src Tryd.prog i.size 30 v gs.length (gs.map Value.string) (W.alloc (.cells #[.string x] 9)) := by
    rcases h with ⟨h1, h2⟩ | ⟨g, cap, h1, h2, h3, h4⟩
    · rw [h1, h2]
      exact Src.ofNil _ Tryd.underlying30 0
    · rw [h1]
      refine Src.ofSlice _ Tryd.underlying30 ⟨g, 0, none⟩ gs.length cap (gs.map Value.string) (by rw [hz1]; simp) (fun j u hu => ?_) (fun u hu => ?_)
      · rw [List.getElem?_map] at hu
        obtain ⟨y, hy, rfl⟩ := Option.map_eq_some_iff.1 hu
        have := h4 j y hy
        rw [← this]
        rw [show (Addr.add ⟨g, 0, none⟩ j : Addr) = ⟨g, j, none⟩ by unfold Addr.add; split <;> simp_all]
        exact hB1.cell (p := ⟨g, j, none⟩) h3
      · obtain ⟨y, _, rfl⟩ := List.mem_map.1 hu; rfl
  by_cases h0 : gs = []
  · subst h0
    refine ⟨W.heap.size, 1, W.alloc (.cells #[.string x] 9), ?_, .inr ⟨W.heap.size, 1, rfl, Nat.le_refl _, by simp, fun j y hy => ?_⟩, hB1⟩
    · exact run_append_nothing _ 30 30 30 9 i Tryd.underlying30 hi _ 1 1 (Nat.le_refl _) v hsrc
    · match j, hy with
      | 0, hy =>
        obtain rfl : x = y := by simpa using hy
        exact one_new W x
      | j + 1, hy => simp at hy
  · have hpos : 1 ≤ gs.length := by
      rcases Nat.eq_zero_or_pos gs.length with h | h
      · exact absurd (List.eq_nil_of_length_eq_zero h) h0
      · exact h
    have hrun := run_append_grow_src (P := Tryd.prog) (w := W.alloc (.cells #[.string x] 9)) 30 30 30 9 i (.string ⟨#[]⟩) Tryd.underlying30 hi hz0 (some ⟨W.heap.size, 0, none⟩) 1 1 [.string x]
      (by rw [hz1]
          exact run_firstCells_some (P := Tryd.prog) (W.alloc (.cells #[.string x] 9)).drew 1 1 ⟨W.heap.size, 0, none⟩ 1 1 [Value.string x] rfl (fun j u hu => by
            match j, hu with
            | 0, hu =>
              obtain rfl : Value.string x = u := by simpa using hu
              exact one_new W x
            | j + 1, hu => simp at hu))
      v gs.length (gs.map Value.string) hsrc (by omega) (by omega)
      (by rw [hz2]
          have h1 : Builtin.nextslicecap (1 + gs.length) 1 ≤ 4000 := by
            unfold Builtin.nextslicecap
            split
            · omega
            · rw [if_pos (by omega)]; omega
          omega)
    rw [Nat.add_comm 1] at hrun
    have hge := grownCap_ge (W.alloc (.cells #[.string x] 9)) (gs.length + 1) 1 9
    generalize hcap : grownCap (W.alloc (.cells #[.string x] 9)) (gs.length + 1) 1 9 = cap at hrun hge
    have hsz : (W.alloc (.cells #[.string x] 9)).heap.size = W.heap.size + 1 := by simp
    rw [hsz] at hrun
    generalize hz : Builtin.zeroCells (Value.string ⟨#[]⟩).cells (cap - (gs.length + 1)) = zs at hrun
    obtain ⟨w2, hw2⟩ : ∃ w2, w2 = (W.alloc (.cells #[.string x] 9)).drew.alloc (.cells (([Value.string x] ++ gs.map Value.string).toArray ++ zs) 9) := ⟨_, rfl⟩
    have hnew := heap_alloc_new (W.alloc (.cells #[.string x] 9)).drew (.cells (([Value.string x] ++ gs.map Value.string).toArray ++ zs) 9)
    have hds : (W.alloc (.cells #[.string x] 9)).drew.heap.size = W.heap.size + 1 := hsz
    rw [← hw2, hds] at hnew
    rw [← hw2] at hrun
    have hB2 : Below W.heap.size W w2 := by
      rw [hw2]
      exact hB1.drew.alloc (by rw [hds]; omega) _
    refine ⟨W.heap.size + 1, cap, w2, hrun, .inr ⟨W.heap.size + 1, cap, rfl, ?_, ?_, ?_⟩, hB2⟩
    · rw [List.length_cons]; exact hge
    · have : w2.heap.size = W.heap.size + 2 := by rw [hw2]; show ((W.alloc (.cells #[.string x] 9)).drew.heap.push _).size = _; rw [Array.size_push, hds]
      omega
    · intro j y hy
      simp only [World.cell?, hnew]
      have hj : j < (x :: gs).length := (List.getElem?_eq_some_iff.1 hy).1
      have e1 : ((([Value.string x] ++ gs.map Value.string).toArray ++ zs)[j]?) = (((x :: gs).map Value.string)[j]?) := by
        rw [Array.getElem?_append_left (by simp at hj ⊢; omega)]
        simp
      have e2 : ((x :: gs).map Value.string)[j]? = some (Value.string y) := by rw [List.getElem?_map, hy]; rfl
      rw [e2] at e1
      simpa using e1

theorem prependAt (W : World) (k : Nat) (x : ByteArray) (gs : List ByteArray) (v : Value) (hc : W.cell? ⟨k, 0, none⟩ = some (.string x)) (hk : k < W.heap.size) (h : GS gs v W) (hl : gs.length ≤ 1000) :
    ∃ g cap w', (Builtin.append_ #[30, 30] 30 #[.slice (some ⟨k, 0, none⟩) 1 1, v]).run Tryd.prog W = .ok (.slice (some ⟨g, 0, none⟩) (gs.length + 1) cap) w' ∧
      GS (x :: gs) (.slice (some ⟨g, 0, none⟩) (gs.length + 1) cap) w' ∧ Below W.heap.size W w' := by
  obtain ⟨i, hi, hz0, hz1, hz2⟩ := info_parts info_str
  have hB1 : Below W.heap.size W W := Below.refl _ _
  have hsrc : Src Tryd.prog i.size 30 v gs.length (gs.map Value.string) W := by
    rcases h with ⟨h1, h2⟩ | ⟨g, cap, h1, h2, h3, h4⟩
    · rw [h1, h2]
      exact Src.ofNil _ Tryd.underlying30 0
    · rw [h1]
      refine Src.ofSlice _ Tryd.underlying30 ⟨g, 0, none⟩ gs.length cap (gs.map Value.string) (by rw [hz1]; simp) (fun j u hu => ?_) (fun u hu => ?_)
      · rw [List.getElem?_map] at hu
        obtain ⟨y, hy, rfl⟩ := Option.map_eq_some_iff.1 hu
        have := h4 j y hy
        rw [← this]
        rw [show (Addr.add ⟨g, 0, none⟩ j : Addr) = ⟨g, j, none⟩ by unfold Addr.add; split <;> simp_all]
      · obtain ⟨y, _, rfl⟩ := List.mem_map.1 hu; rfl
  by_cases h0 : gs = []
  · subst h0
    refine ⟨k, 1, W, ?_, .inr ⟨k, 1, rfl, Nat.le_refl _, hk, fun j y hy => ?_⟩, hB1⟩
    · exact run_append_nothing _ 30 30 30 9 i Tryd.underlying30 hi _ 1 1 (Nat.le_refl _) v hsrc
    · match j, hy with
      | 0, hy =>
        obtain rfl : x = y := by simpa using hy
        exact hc
      | j + 1, hy => simp at hy
  · have hpos : 1 ≤ gs.length := by
      rcases Nat.eq_zero_or_pos gs.length with h | h
      · exact absurd (List.eq_nil_of_length_eq_zero h) h0
      · exact h
    have hrun := run_append_grow_src (P := Tryd.prog) (w := W) 30 30 30 9 i (.string ⟨#[]⟩) Tryd.underlying30 hi hz0 (some ⟨k, 0, none⟩) 1 1 [.string x]
      (by rw [hz1]
          exact run_firstCells_some (P := Tryd.prog) W.drew 1 1 ⟨k, 0, none⟩ 1 1 [Value.string x] rfl (fun j u hu => by
            match j, hu with
            | 0, hu =>
              obtain rfl : Value.string x = u := by simpa using hu
              exact hc
            | j + 1, hu => simp at hu))
      v gs.length (gs.map Value.string) hsrc (by omega) (by omega)
      (by rw [hz2]
          have h1 : Builtin.nextslicecap (1 + gs.length) 1 ≤ 4000 := by
            unfold Builtin.nextslicecap
            split
            · omega
            · rw [if_pos (by omega)]; omega
          omega)
    rw [Nat.add_comm 1] at hrun
    have hge := grownCap_ge W (gs.length + 1) 1 9
    generalize hcap : grownCap W (gs.length + 1) 1 9 = cap at hrun hge
    have hsz : W.heap.size = W.heap.size := rfl
    generalize hz : Builtin.zeroCells (Value.string ⟨#[]⟩).cells (cap - (gs.length + 1)) = zs at hrun
    obtain ⟨w2, hw2⟩ : ∃ w2, w2 = W.drew.alloc (.cells (([Value.string x] ++ gs.map Value.string).toArray ++ zs) 9) := ⟨_, rfl⟩
    have hnew := heap_alloc_new W.drew (.cells (([Value.string x] ++ gs.map Value.string).toArray ++ zs) 9)
    have hds : W.drew.heap.size = W.heap.size := hsz
    rw [← hw2, hds] at hnew
    rw [← hw2] at hrun
    have hB2 : Below W.heap.size W w2 := by
      rw [hw2]
      exact hB1.drew.alloc (by rw [hds]; omega) _
    refine ⟨W.heap.size, cap, w2, hrun, .inr ⟨W.heap.size, cap, rfl, ?_, ?_, ?_⟩, hB2⟩
    · rw [List.length_cons]; exact hge
    · have : w2.heap.size = W.heap.size + 1 := by rw [hw2]; show (W.drew.heap.push _).size = _; rw [Array.size_push, hds]
      omega
    · intro j y hy
      simp only [World.cell?, hnew]
      have hj : j < (x :: gs).length := (List.getElem?_eq_some_iff.1 hy).1
      have e1 : ((([Value.string x] ++ gs.map Value.string).toArray ++ zs)[j]?) = (((x :: gs).map Value.string)[j]?) := by
        rw [Array.getElem?_append_left (by simp at hj ⊢; omega)]
        simp
      have e2 : ((x :: gs).map Value.string)[j]? = some (Value.string y) := by rw [List.getElem?_map, hy]; rfl
      rw [e2] at e1
      simpa using e1

theorem one_byte_str (W : World) (k : Nat) (sep : UInt8) (hc : W.cell? ⟨k, 0, none⟩ = some (.int .u8 (sep.toNat : Int))) :
    (convert 47 9 (.slice (some ⟨k, 0, none⟩) 1 1)).run Tryd.prog W = .ok (.string ⟨#[sep]⟩) W :=
  run_convert_bytes_back (P := Tryd.prog) W 47 9 5 ⟨k, 0, none⟩ 1 [sep] Tryd.underlying47 Tryd.underlying5 Tryd.underlying9 (fun j hj => by
    have hj0 : j = 0 := by simpa using hj
    subst hj0
    exact hc)

theorem one_byte_new (W : World) (sep : UInt8) : (W.alloc (.cells #[.int .u8 (sep.toNat : Int)] 5)).cell? ⟨W.heap.size, 0, none⟩ = some (.int .u8 (sep.toNat : Int)) := by
  have hn := heap_alloc_new W (.cells #[.int .u8 (sep.toNat : Int)] 5)
  simp only [World.cell?, hn]
  rfl

/-- The same as one step of a region that draws its order. -/
theorem step_prepend {ops : Array Oper} {o : Oper} {a : Act} {w : World} {K : Act → World → Prop} {Q : Exit → Act → World → Prop} {E : Prop} (hgd : o.guard = none) (s x : Operand)
    (ho : o.op = .call { callee := .builtin .append, args := #[s, x], argTypes := #[30, 30] }) (hty : o.type = 30) (k : Nat) (xb : ByteArray) (gs : List ByteArray) (v : Value)
    (hs : a.eval s = .slice (some ⟨k, 0, none⟩) 1 1) (hx : a.eval x = v) (hc : w.cell? ⟨k, 0, none⟩ = some (.string xb)) (hk : k < w.heap.size) (hgs : GS gs v w) (hl : gs.length ≤ 1000)
    (h : ∀ g cap w', GS (xb :: gs) (.slice (some ⟨g, 0, none⟩) (gs.length + 1) cap) w' → Below w.heap.size w w' → K (a.put o.dst (.slice (some ⟨g, 0, none⟩) (gs.length + 1) cap)) w') :
    if Region.wanted o (yielded ops a.tmps) = true then Oper.wp Tryd.prog o a w K Q else E := by
  have hw : Region.wanted o (yielded ops a.tmps) = true := by simp [Region.wanted, hgd]
  rw [if_pos hw]
  obtain ⟨g, cap, w', hr, h1, h2⟩ := prependAt w k xb gs v hc hk hgs hl
  exact Lib.wp_append_run w s x 30 30 ho _ _ hs hx _ _ (by rw [hty]; exact hr) (h g cap w' h1 h2)

/-- The same over a base world. -/
theorem step_prepend_on {ops : Array Oper} {o : Oper} {a : Act} {w : World} {K : Act → World → Prop} {Q : Exit → Act → World → Prop} {E : Prop} (w0 : World) (hgd : o.guard = none) (s x : Operand)
    (ho : o.op = .call { callee := .builtin .append, args := #[s, x], argTypes := #[30, 30] }) (hty : o.type = 30) (k : Nat) (xb : ByteArray) (gs : List ByteArray) (v : Value)
    (hs : a.eval s = .slice (some ⟨k, 0, none⟩) 1 1) (hx : a.eval x = v) (hb0 : Below w0.heap.size w0 w) (hc : w.cell? ⟨k, 0, none⟩ = some (.string xb)) (hk : k < w.heap.size) (hgs : GS gs v w0) (hl : gs.length ≤ 1000)
    (h : ∀ g cap w', GS (xb :: gs) (.slice (some ⟨g, 0, none⟩) (gs.length + 1) cap) w' → Below w.heap.size w w' → Below w0.heap.size w0 w' → K (a.put o.dst (.slice (some ⟨g, 0, none⟩) (gs.length + 1) cap)) w') :
    if Region.wanted o (yielded ops a.tmps) = true then Oper.wp Tryd.prog o a w K Q else E :=
  step_prepend hgd s x ho hty k xb gs v hs hx hc hk (hgs.below hb0) hl fun g cap w' h1 h2 => h g cap w' h1 h2 (hb0.trans (h2.mono hb0.size))

end Go.Proofs.YtnjjilnfpdepoaaDoor
