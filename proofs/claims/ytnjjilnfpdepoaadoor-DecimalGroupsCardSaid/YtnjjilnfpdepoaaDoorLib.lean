/-
  Contracts of Go's library at this seat's numbers, beside the shelf's own: strings.Trim and TrimLeft at an ASCII cutset, Index at one byte; their conditions stand in each.
-/
import Derived.Test.YtnjjilnfpdepoaaDoorShelf
import Derived.Shelf.Strings.SlTrimAscii
namespace Go.Proofs.YtnjjilnfpdepoaaDoor
open Go.RowKit

def Ascii (l : List UInt8) : Prop := l.all (fun b => decide (b.toNat < 128)) = true
instance (l : List UInt8) : Decidable (Ascii l) := inferInstanceAs (Decidable (_ = _))

theorem ascii_info : (Tryd.prog.info? 95).map (fun i => (i.zero, i.size)) = some (some (.agg (Array.replicate 256 (.bool false))), 256) := by kernel_rfl

theorem trimLeft_any (s c : ByteArray) (w : World) (hc : c.size < 4294967281) (ha : Ascii c.data.toList) :
    Calls Tryd.prog 67 #[.string s, .string c] w fun e w' => e = .returned (.string ⟨(Lib.trimLeftS s.data.toList c.data.toList).toArray⟩) ∧ Below w.heap.size w w' :=
  Any.strings_TrimLeft_laid Tryd.lays161 ascii_info s c w hc (ascii_of_all ha)

theorem trim_any (s c : ByteArray) (w : World) (hs : s.size ≤ 9223372036854775807) (hc : c.size < 4294967281) (ha : Ascii c.data.toList) :
    Calls Tryd.prog 25 #[.string s, .string c] w fun e w' => e = .returned (.string ⟨(Lib.trimS s.data.toList c.data.toList).toArray⟩) ∧ Below w.heap.size w w' :=
  Any.strings_Trim_laid Tryd.lays160 ascii_info s c w hs hc (ascii_of_all ha)

theorem size_lit1 (c : UInt8) : (⟨#[c]⟩ : ByteArray).size = 1 := rfl

theorem one_byte {s : ByteArray} (h : s.size = 1) : ∃ c, s = ⟨#[c]⟩ := by
  obtain ⟨⟨l⟩⟩ := s
  match l, h with
  | [c], _ => exact ⟨c, rfl⟩

theorem repeat_any (s : ByteArray) (c : Int) (w : World) (h0 : 0 ≤ c) (h1 : c ≤ 9223372036854775807) (h2 : s.size * c.toNat ≤ 140737488355328) :
    Calls Tryd.prog 64 #[.string s, .int .i64 c] w fun e w' => e = .returned (.string ⟨(Lib.repeatL s.data.toList c.toNat).toArray⟩) ∧ Below w.heap.size w w' := by
  obtain ⟨n, rfl⟩ := Int.eq_ofNat_of_zero_le h0
  exact Tryd.strings_Repeat s n w (by omega) h2

end Go.Proofs.YtnjjilnfpdepoaaDoor
