/-
  Readers: what the walks of several readers share.
-/
import Derived.Test.YtcacembpegoghaaDoorRdP
import Derived.Test.YtcacembpegoghaaDoorTyD
import Derived.Test.YtcacembpegoghaaDoorTyM
import Derived.Test.YtcacembpegoghaaDoorRdS2
namespace Go.Proofs.YtcacembpegoghaaDoor
open Go.RowKit Go.Proofs

set_option maxRecDepth 100000
theorem grown_in {w wr : World} {row : Option Nat} (h : w.grownBy wr row) {a : Addr} (hq : w.heap.size ≤ a.block) (x : Value) : w.grownBy (wr.setCell a x) row := by
  refine ⟨h.os, h.tape, h.output, by rw [World.size_setCell]; exact h.size, fun k hl hne => ?_⟩
  rw [← h.block k hl hne]
  unfold World.setCell
  simp only
  rw [Array.getElem?_modify, if_neg (by omega)]
def sortsL : List Str := [[], [105, 110, 116], [98, 111, 111, 108], [116, 101, 120, 116]]
def ixOf (W : Str) : Int := if W = [] then 0 else if sortIx W = 0 then -1 else sortIx W
theorem ixOf_lt {W : Str} (h : sortIx W = 0) : ixOf W < 1 := by
  unfold ixOf
  rw [h]
  split <;> decide
theorem ixOf_eq {W : Str} (h : ¬ sortIx W = 0) : ixOf W = sortIx W := by
  unfold ixOf
  rw [if_neg (sortIx_low h).1, if_neg h]
theorem index_sorts {w : World} {gb go gc : Nat} (hrow : StrRow w gb go [[], [105, 110, 116], [98, 111, 111, 108], [116, 101, 120, 116]]) (W : Str) :
    Calls Tryd.prog 176 #[.slice (some ⟨gb, go, none⟩) 4 gc, .string ⟨W.toArray⟩] w fun e w' => e = .returned (.int .i64 (ixOf W)) ∧ w' = w := by
  have h := Tryd.slices_Index_string gb go 4 gc (sortsL.map fun s => ⟨s.toArray⟩) ⟨W.toArray⟩ w (by simp [sortsL]) (by decide) (by
    intro j hj
    have hj' : j < 4 := by simpa [sortsL] using hj
    rw [hrow j (sortsL[j]'(by simpa [sortsL] using hj')) (by rw [List.getElem?_eq_getElem]; rfl)]
    congr 2
    rw [List.getD_eq_getElem?_getD, List.getElem?_map, List.getElem?_eq_getElem (by simpa [sortsL] using hj')]
    rfl)
  rw [List.take_of_length_le (by simp [sortsL])] at h
  have e : Lib.idxOfS (sortsL.map fun s => (⟨s.toArray⟩ : ByteArray)) ⟨W.toArray⟩ = ixOf W := by
    unfold ixOf sortIx
    simp only [sortsL, List.map, Lib.idxOfS, Lib.idxFromS, mk_inj, @eq_comm _ _ W]
    repeat' split
    all_goals first | rfl | (subst_vars; simp_all) | simp_all
  rw [e] at h
  exact h
theorem own_at {w w' : World} {base : Nat} {e : TypeId} {size n : Nat} {v : Value} {xs : List Value} {b : Nat} (h : w.ownsRow base e size v n xs) (hg : w.grownBy w' (some b)) (hb : b < base) : w'.ownsRow base e size v n xs := by
  refine h.kept hg (Or.inr fun e => ?_)
  have := (h.lt b e).1
  omega
abbrev strVals (l : List Str) : List Value := l.map fun s => .string ⟨s.toArray⟩
theorem own_strsD {D : Blocks} {w : World} {base : Nat} {E : TypeId} {v : Value} {l : List Str} (h : w.ownsRow base E 1 v l.length (strVals l)) (hD : ∀ b, base ≤ b → D b) : StrsD D w v l := by
  have hcells := fun g => h.cells (g := g)
  rcases h.2 with ⟨rfl, h0⟩ | ⟨g, cap, cur, rfl, hg, _, hn, _⟩
  · exact ⟨none, 0, by rw [h0], by omega, fun h1 => by omega⟩
  · refine ⟨_, cap, rfl, hn, fun _ => ⟨g, 0, rfl, hD g hg, fun i s hi => ?_⟩⟩
    have := hcells g rfl i (.string ⟨s.toArray⟩) (by rw [strVals, List.getElem?_map, hi]; rfl)
    rw [Go.WideShapes.add_plain] at this
    exact this
theorem RBox.keepB {w w' : World} {b B : Nat} {l : Str} {p : Nat} (h : RBox w b l p) (hb : Below B w w') (hB : b < B) : RBox w' b l p :=
  ⟨(hb.cell (p := ⟨b, 0, none⟩) hB).trans h.c0, (hb.cell (p := ⟨b, 1, none⟩) hB).trans h.c1, fun j => (hb.frozen (p := ⟨b, j, none⟩) hB).trans (h.fr j), Nat.lt_of_lt_of_le h.lt hb.size⟩
theorem grown_belowT {a w w' : World} {row : Option Nat} {B : Nat} (h : a.grownBy w row) (hb : Below B w w') (hB : a.heap.size ≤ B) : a.grownBy w' row :=
  ⟨hb.os.trans h.os, hb.tape.trans h.tape, hb.output.trans h.output, Nat.le_trans h.size hb.size, fun q hl hne => (hb.block q (by omega)).trans (h.block q hl hne)⟩
theorem new_box (w : World) (E : TypeId) : VBox (w.alloc (.cells #[.int .i64 0, .int .i64 0, .string ⟨#[]⟩, .slice none 0 0, .slice none 0 0] E)) w.heap.size zeroTy (.slice none 0 0) (.slice none 0 0) :=
  ⟨by simp [go_sem]; rfl, by simp [go_sem]; rfl, by simp [go_sem]; rfl, by simp [go_sem], by simp [go_sem], fun j => by simp [go_sem], by simp⟩
theorem sign_seq_ok {α : Type} {l : Str} {c : UInt8} {p : Nat} (h : l[sk l p]? = some c) (f : Unit → Nat → Rd α) : (rdSign l c p).seq f = f () (sk l p + 1) := by rw [rdSign, if_pos h]; rfl
theorem sign_seq_bad {α : Type} {l : Str} {c : UInt8} {p : Nat} (h : ¬ l[sk l p]? = some c) (f : Unit → Nat → Rd α) : (rdSign l c p).seq f = .bad (sk l p) := by rw [rdSign, if_neg h]; rfl
theorem grown_drew {a w : World} {row : Option Nat} (h : a.grownBy w row) : a.grownBy w.drew row := ⟨h.os, h.tape, h.output, h.size, h.block⟩
theorem drew_grown {w w' : World} {row : Option Nat} (h : w.drew.grownBy w' row) : w.grownBy w' row := ⟨h.os, h.tape, h.output, h.size, h.block⟩
end Go.Proofs.YtcacembpegoghaaDoor
