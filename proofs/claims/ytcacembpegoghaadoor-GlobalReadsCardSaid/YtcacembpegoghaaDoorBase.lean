/-
  Small things that every text of this seat uses: utf8's tables as a hypothesis that outlives new memory, chains of 'Below', strings as lists of bytes.
-/
import Derived.Test.YtcacembpegoghaaDoorShelf
import Derived.WalkKit
import Derived.WalkSpells
import Derived.WalkLawsBesides
import Derived.Handy
import Derived.BigQuiet
import Derived.Outline
import Derived.Lib.ValidU
import Derived.Lib.Hide
import Derived.Deep.Draws
namespace Go.Proofs.YtcacembpegoghaaDoor
open Go.RowKit Go.Proofs

/-- utf8's two tables, as the program's start lays them. -/
def Tabs (w : World) : Prop := Lib.Utf8Tabs 2 3 w
theorem Tabs.below {w w' : World} (h : Tabs w) (hb : Below w.heap.size w w') : Tabs w' := Utf8Tabs_below h hb
theorem Tabs.drew {w : World} (h : Tabs w) : Tabs w.drew := h
theorem Tabs.drewN {w : World} (h : Tabs w) (n : Nat) : Tabs (w.drewN n) := h

theorem step {w w1 w2 : World} (h1 : Below w.heap.size w w1) {B : Nat} (h2 : Below B w1 w2) (hB : w.heap.size ≤ B) : Below w.heap.size w w2 := h1.trans (h2.mono hB)
theorem chain {w w0 w1 : World} (h : Below w.heap.size w w0) (h1 : Below w0.heap.size w0 w1) : Below w.heap.size w w1 := h.trans (h1.mono h.size)
theorem below_drewN {B : Nat} {a w : World} (h : Below B a w) (n : Nat) : Below B a (w.drewN n) := ⟨h.os, h.tape, h.output, h.size, h.block⟩
theorem ret_int {k : IntKind} {a b : Int} (h : a = b) : Ending.returned (.int k a) = .returned (.int k b) := by rw [h]
theorem ret_bool {a b : Bool} (h : a = b) : Ending.returned (.bool a) = .returned (.bool b) := by rw [h]
theorem str_data (s : ByteArray) : s = ⟨s.data.toList.toArray⟩ := (Lib.mk_data s).symm
theorem ext_mid (t : List UInt8) (a b : Nat) : (⟨t.toArray⟩ : ByteArray).extract a b = ⟨((t.drop a).take (b - a)).toArray⟩ := Lib.extract_eq ⟨t.toArray⟩ a b
theorem ext_from (t : List UInt8) (a : Nat) : (⟨t.toArray⟩ : ByteArray).extract a t.length = ⟨(t.drop a).toArray⟩ := by
  rw [ext_mid, List.take_of_length_le (by rw [List.length_drop]; omega)]
theorem ext_to (t : List UInt8) (b : Nat) : (⟨t.toArray⟩ : ByteArray).extract 0 b = ⟨(t.take b).toArray⟩ := by
  rw [ext_mid]; simp
attribute [go_sem] ext_from ext_to
/-- What a later world holds of an earlier one, as the walk's own rules. -/
theorem bcell {B : Nat} {W w1 : World} (hb : Below B W w1) : (∀ b o, b < B → w1.cell? ⟨b, o, none⟩ = W.cell? ⟨b, o, none⟩) ∧ (∀ b o, b < B → w1.frozen? ⟨b, o, none⟩ = W.frozen? ⟨b, o, none⟩) ∧ W.heap.size ≤ w1.heap.size :=
  ⟨fun b o h => hb.cell (p := ⟨b, o, none⟩) h, fun b o h => hb.frozen (p := ⟨b, o, none⟩) h, hb.size⟩
/-- What was owned stays owned while nothing below the heap's end turns. -/
theorem own_keep {w w' : World} {base : Nat} {e : TypeId} {size n : Nat} {v : Value} {xs : List Value} (h : w.ownsRow base e size v n xs) {B : Nat} (hb : Below B w w') (hB : w.heap.size ≤ B) : w'.ownsRow base e size v n xs :=
  h.kept (row := Option.none) ⟨hb.os, hb.tape, hb.output, hb.size, fun q hq _ => hb.block q (by omega)⟩ (by cases v.ownBlock <;> simp)
end Go.Proofs.YtcacembpegoghaaDoor
