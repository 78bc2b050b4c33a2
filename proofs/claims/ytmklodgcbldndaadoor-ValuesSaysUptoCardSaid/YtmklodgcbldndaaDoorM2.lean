/-
  Small things that every text of this seat uses: utf8's tables as a hypothesis that outlives new memory, chains of 'Below', strings as lists of bytes.
  Rows of memory that a call owns: one bundle for a slice type's closed facts (RowType), and append onto an owned row stated with 'Below' (everything that was there before the call stays).
  Blocks of memory, rows of texts, boxes of one cell: what all walks share.
  Numbers by lists of 32-bit words, the least first: their value, without noughts at the end; division by one word; decimal digits. Plain.
  The words of big numbers in memory: trim, words, twin, small; a big number behind a pointer.
  Plain facts on words of big numbers: sums, products, how many bits.
-/
import Derived.Test.YtmklodgcbldndaaDoorShelf
import Derived.WalkKit
import Derived.WalkSpells
import Derived.WalkLawsBesides
import Derived.Handy
import Derived.BigQuiet
import Derived.Outline
import Derived.Lib.ValidU
import Derived.Lib.Hide
import Derived.Deep.Draws
import Derived.Maps.AppendAt
import Derived.Deep.AppendLies
import Derived.Lib.SlicesS
import Derived.Laws.AppendOwnNone
import Derived.Below
import Derived.Deep.RegionHeld
import Derived.Lib.ItoaMem
namespace Go.Proofs.YtmklodgcbldndaaDoor
open Go.RowKit Go.Proofs

/-- utf8's two tables, as the program's start lays them. -/
def Tabs (w : World) : Prop := Lib.Utf8Tabs 0 1 w
theorem Tabs.below {w w' : World} (h : Tabs w) (hb : Below w.heap.size w w') : Tabs w' := Utf8Tabs_below h hb
theorem Tabs.drew {w : World} (h : Tabs w) : Tabs w.drew := h
theorem Tabs.drewN {w : World} (h : Tabs w) (n : Nat) : Tabs (w.drewN n) := h

theorem step {w w1 w2 : World} (h1 : Below w.heap.size w w1) {B : Nat} (h2 : Below B w1 w2) (hB : w.heap.size ≤ B) : Below w.heap.size w w2 := h1.trans (h2.mono hB)
theorem chain {w w0 w1 : World} (h : Below w.heap.size w w0) (h1 : Below w0.heap.size w0 w1) : Below w.heap.size w w1 := h.trans (h1.mono h.size)
theorem below_drewN {B : Nat} {a w : World} (h : Below B a w) (n : Nat) : Below B a (w.drewN n) := ⟨h.os, h.tape, h.output, h.size, h.block⟩
theorem ret_int {k : IntKind} {a b : Int} (h : a = b) : Ending.returned (.int k a) = .returned (.int k b) := by rw [h]
theorem ret_bool {a b : Bool} (h : a = b) : Ending.returned (.bool a) = .returned (.bool b) := by rw [h]
theorem str_data (s : ByteArray) : s = ⟨s.data.toList.toArray⟩ := (Lib.mk_data s).symm
theorem ext_mid (t : List UInt8) (a b : Nat) : (⟨t.toArray⟩ : ByteArray).extract a b = ⟨((t.drop a).take (b - a)).toArray⟩ := Lib.extract_eq ⟨t.toArray⟩ a b
theorem ext_from (t : List UInt8) (a : Nat) : (⟨t.toArray⟩ : ByteArray).extract a t.length = ⟨(t.drop a).toArray⟩ := by
  rw [ext_mid, List.take_of_length_le (by rw [List.length_drop]; omega)]
theorem ext_to (t : List UInt8) (b : Nat) : (⟨t.toArray⟩ : ByteArray).extract 0 b = ⟨(t.take b).toArray⟩ := by
  rw [ext_mid]; simp
attribute [go_sem] ext_from ext_to
/-- What a later world holds of an earlier one, as the walk's own rules. -/
theorem bcell {B : Nat} {W w1 : World} (hb : Below B W w1) : (∀ b o, b < B → w1.cell? ⟨b, o, none⟩ = W.cell? ⟨b, o, none⟩) ∧ (∀ b o, b < B → w1.frozen? ⟨b, o, none⟩ = W.frozen? ⟨b, o, none⟩) ∧ W.heap.size ≤ w1.heap.size :=
  ⟨fun b o h => hb.cell (p := ⟨b, o, none⟩) h, fun b o h => hb.frozen (p := ⟨b, o, none⟩) h, hb.size⟩
/-- What was owned stays owned while nothing below the heap's end turns. -/
theorem own_keep {w w' : World} {base : Nat} {e : TypeId} {size n : Nat} {v : Value} {xs : List Value} (h : w.ownsRow base e size v n xs) {B : Nat} (hb : Below B w w') (hB : w.heap.size ≤ B) : w'.ownsRow base e size v n xs :=
  h.kept (row := Option.none) ⟨hb.os, hb.tape, hb.output, hb.size, fun q hq _ => hb.block q (by omega)⟩ (by cases v.ownBlock <;> simp)
end Go.Proofs.YtmklodgcbldndaaDoor
namespace Go.Proofs.YtmklodgcbldndaaDoor
open Go.RowKit Go.Proofs

/-- The closed facts of a slice type T with elements E of 'size' cells and 'bytes' bytes. -/
structure RowType (P : Program) (T E : TypeId) (size bytes : Nat) : Prop where
  ht : P.underlying T = some (.slice E)
  ex : ∃ (i : TypeInfo) (z : Value), P.info? E = some i ∧ i.zero = some z ∧ i.size = size ∧ i.bytes = bytes ∧ z.cells.size = size
  pos : 0 < size

theorem RowType.mk' {P : Program} {T E : TypeId} {size bytes : Nat} {z : Value} (ht : P.underlying T = some (.slice E)) (h : (P.info? E).map (fun i => (i.zero, i.size, i.bytes)) = some (some z, size, bytes)) (hz : z.cells.size = size) (hp : 0 < size) : RowType P T E size bytes := by
  obtain ⟨i, h1, h2, h3, h4⟩ := info_parts h
  exact ⟨ht, ⟨i, z, h1, h2, h3, h4, hz⟩, hp⟩

section
variable {P : Program} {ops : Array Oper} {rest : List Oper} {o : Oper} {a : Act} {Q : Exit → Act → World → Prop} {w : World}

/-- append onto an owned row, of m elements that lie at ad: both facts on where the new row lies. -/
theorem wpList_app {T E : TypeId} {size bytes : Nat} (R : RowType P T E size bytes) (hgd : o.guard = none) (s x : Operand)
    (ho : o.op = .call { callee := .builtin .append, args := #[s, x], argTypes := #[T, T] })
    (base : Nat) (v : Value) (n : Nat) (xs : List Value) (hs : a.eval s = v) (hown : w.ownsRow base E size v n xs)
    (ad : Addr) (m c : Nat) (news : List Value) (hx : a.eval x = .slice (some ad) m c) (hl : news.length = m * size) (hnews : ∀ j u, news[j]? = some u → w.cell? (ad.add j) = some u) (h1 : ∀ u ∈ news, u.oneCell' = true)
    (h63 : n + m ≤ maxLen) (hbytes : (n + m) * bytes ≤ 140737488355328) (hbase : base ≤ w.heap.size)
    (h : ∀ v' w', w'.ownsRow base E size v' (n + m) (xs ++ news) → w.grownBy w' v.ownBlock → (v'.ownBlock = v.ownBlock ∨ v'.ownBlock = some w.heap.size) → Below base w w' → wpList P ops Q rest (a.put o.dst v') w') : wpList P ops Q (o :: rest) a w := by
  obtain ⟨i, z, hi, hz, hsize, hby, hzs⟩ := R.ex
  refine wpList_append_own_at w hgd s x T ho base E i z size bytes R.ht hi hz hsize hby hzs R.pos v n xs hs hown ad m c news hx hl hnews h1 h63 hbytes hbase ?_
  intro v' w' h2 h3 _ h5
  refine h v' w' h2 h3 h5 ?_
  exact (Below.refl _ _).grown h3 hbase (fun k hk => (hown.lt k hk).1)

/-- append of ONE element of one cell, laid by the statement itself into the newest block. -/
theorem wpList_app1 {T E : TypeId} {bytes : Nat} (R : RowType P T E 1 bytes) (w : World) (u : Value) (hgd : o.guard = none) (s x : Operand)
    (ho : o.op = .call { callee := .builtin .append, args := #[s, x], argTypes := #[T, T] })
    (base : Nat) (v : Value) (n : Nat) (xs : List Value) (hs : a.eval s = v) (hown : w.ownsRow base E 1 v n xs)
    (hx : a.eval x = .slice (some ⟨w.heap.size, 0, none⟩) 1 1) (h1 : u.oneCell' = true)
    (hbytes : (n + 1) * bytes ≤ 140737488355328) (h63 : n + 1 ≤ 4611686018427387904) (hbase : base ≤ w.heap.size)
    (h : ∀ v' w', w'.ownsRow base E 1 v' (n + 1) (xs ++ [u]) → (w.alloc (.cells #[u] E)).grownBy w' v.ownBlock → (v'.ownBlock = v.ownBlock ∨ v'.ownBlock = some (w.heap.size + 1)) → Below base w w' → wpList P ops Q rest (a.put o.dst v') w') : wpList P ops Q (o :: rest) a (w.alloc (.cells #[u] E)) := by
  refine wpList_app R hgd s x ho base v n xs hs (hown.alloc _) ⟨w.heap.size, 0, none⟩ 1 1 [u] hx rfl (cell_one_new _ _ _) (by simpa using h1) (by unfold maxLen; omega) hbytes (by simp; omega) ?_
  intro v' w' h2 h3 h4 h5
  exact h v' w' h2 h3 (by simpa using h4) (((Below.refl _ _).alloc hbase _).trans h5)
end

theorem rt_runes : RowType Tryd.prog 50 21 1 4 := .mk' (z := .int .i32 0) Tryd.underlying50 (by kernel_rfl) rfl (by decide)
theorem rt_strs : RowType Tryd.prog 27 9 1 16 := .mk' (z := .string ⟨#[]⟩) Tryd.underlying27 (by kernel_rfl) rfl (by decide)
theorem rt_bytes : RowType Tryd.prog 59 5 1 1 := .mk' (z := .int .u8 0) Tryd.underlying59 (by kernel_rfl) rfl (by decide)
theorem rt_ints : RowType Tryd.prog 28 3 1 8 := .mk' (z := .int .i64 0) Tryd.underlying28 (by kernel_rfl) rfl (by decide)
end Go.Proofs.YtmklodgcbldndaaDoor
namespace Go.Proofs.YtmklodgcbldndaaDoor
open Go.RowKit Go.Proofs
set_option maxRecDepth 100000

abbrev Str := List UInt8
/-- A row of texts. -/
def StrRow (w : World) (b off : Nat) (l : List Str) : Prop := ∀ i s, l[i]? = some s → w.cell? ⟨b, off + i, none⟩ = some (.string ⟨s.toArray⟩)
/-- A slice of texts. -/
def IsStrs (w : World) (v : Value) (l : List Str) : Prop := ∃ A cap, v = .slice A l.length cap ∧ l.length ≤ cap ∧ (0 < l.length → ∃ b off, A = some ⟨b, off, none⟩ ∧ StrRow w b off l)
theorem cell_lt {w : World} {b o : Nat} {v : Value} (h : w.cell? ⟨b, o, none⟩ = some v) : b < w.heap.size := by
  unfold World.cell? at h
  rcases Nat.lt_or_ge b w.heap.size with hl | hl
  · exact hl
  · rw [Array.getElem?_eq_none hl] at h; cases h
theorem cell_keep {w w' : World} {b o : Nat} {v : Value} (h : w.cell? ⟨b, o, none⟩ = some v) (hb : Below w.heap.size w w') : w'.cell? ⟨b, o, none⟩ = some v :=
  (hb.cell (p := ⟨b, o, none⟩) (cell_lt h)).trans h
theorem StrRow.keep {w w' : World} {b off : Nat} {l : List Str} (h : StrRow w b off l) (hb : Below w.heap.size w w') : StrRow w' b off l := fun i s hi => cell_keep (h i s hi) hb
theorem IsStrs.keep {w w' : World} {v : Value} {l : List Str} (h : IsStrs w v l) (hb : Below w.heap.size w w') : IsStrs w' v l := by
  obtain ⟨A, cap, h1, h2, h3⟩ := h
  exact ⟨A, cap, h1, h2, fun h0 => let ⟨b, off, e, hr⟩ := h3 h0; ⟨b, off, e, hr.keep hb⟩⟩
section
variable {P : Program} {ops : Array Oper} {rest : List Oper} {o : Oper} {a : Act} {Q : Exit → Act → World → Prop} {w : World}
/-- append(xs, ys...) where ys lie at a place, or are none. -/
theorem wpList_app_any {T E : TypeId} {size bytes : Nat} (R : RowType P T E size bytes) (hgd : o.guard = none) (s x : Operand)
    (ho : o.op = .call { callee := .builtin .append, args := #[s, x], argTypes := #[T, T] })
    (base : Nat) (v : Value) (n : Nat) (xs : List Value) (hs : a.eval s = v) (hown : w.ownsRow base E size v n xs)
    (A : Option Addr) (m c : Nat) (hx : a.eval x = .slice A m c) (ys : List Value) (hl : ys.length = m * size) (hA : A = none → m = 0 ∧ c = 0) (hsrc : ∀ ad, A = some ad → ∀ j u, ys[j]? = some u → w.cell? (ad.add j) = some u) (h1 : ∀ u ∈ ys, u.oneCell' = true)
    (h63 : n + m ≤ maxLen) (hbytes : (n + m) * bytes ≤ 140737488355328) (hbase : base ≤ w.heap.size)
    (h : ∀ v' w', w'.ownsRow base E size v' (n + m) (xs ++ ys) → Below base w w' → wpList P ops Q rest (a.put o.dst v') w') : wpList P ops Q (o :: rest) a w := by
  cases A with
  | none =>
    obtain ⟨rfl, rfl⟩ := hA rfl
    obtain ⟨i, z, hi, hz, hsize, hby, hzs⟩ := R.ex
    refine wpList_append_own_none hgd s x T ho base E i size R.ht hi v n xs hs hown hx ?_
    have : ys = [] := List.eq_nil_of_length_eq_zero (by omega)
    subst this
    exact h v w (by simpa using hown) (Below.refl _ _)
  | some ad =>
    exact wpList_app R hgd s x ho base v n xs hs hown ad m c ys hx hl (hsrc ad rfl) h1 h63 hbytes hbase fun v' w' k1 _ _ k4 => h v' w' k1 k4
end
theorem IsStrs.one {w : World} {v : Value} {l : List Str} (h : IsStrs w v l) : v.oneCell' = true := by obtain ⟨A, cap, rfl, _⟩ := h; rfl
theorem own_form {w : World} {base : Nat} {E : TypeId} {size n : Nat} {v : Value} {xs : List Value} (h : w.ownsRow base E size v n xs) : ∃ A cap, v = .slice A n cap := by
  rcases h.2 with ⟨rfl, h0⟩ | ⟨g, cap, cur, rfl, _⟩
  · rw [h0]; exact ⟨_, _, rfl⟩
  · exact ⟨_, _, rfl⟩
theorem mem_of_at {α : Type} {l : List α} {i : Nat} {a : α} (h : l[i]? = some a) : a ∈ l := List.mem_of_getElem? h
abbrev Blocks := Nat → Prop
def StrsD (D : Blocks) (w : World) (v : Value) (l : List Str) : Prop := ∃ A cap, v = .slice A l.length cap ∧ l.length ≤ cap ∧ (0 < l.length → ∃ b off, A = some ⟨b, off, none⟩ ∧ D b ∧ StrRow w b off l)
/-- The same blocks, and they hold the same. -/
def Same (D : Blocks) (w w' : World) : Prop := ∀ b, D b → b < w.heap.size → w'.heap[b]? = w.heap[b]?
theorem Same.cell {D : Blocks} {w w' : World} (h : Same D w w') {b o : Nat} (hD : D b) {v : Value} (hc : w.cell? ⟨b, o, none⟩ = some v) : w'.cell? ⟨b, o, none⟩ = some v := by
  have hl := cell_lt hc
  unfold World.cell? at hc ⊢
  rw [h b hD hl]
  exact hc
theorem Same.below {D : Blocks} {w w' : World} (hb : Below w.heap.size w w') : Same D w w' := fun b _ hl => hb.block b hl
theorem Same.grown {D : Blocks} {w w' : World} {row : Option Nat} (hg : w.grownBy w' row) (h : ∀ b, D b → some b ≠ row) : Same D w w' := fun b hD hl => hg.block b hl (h b hD)
theorem Same.set {D : Blocks} {w : World} {p : Addr} {u : Value} (h : ¬ D p.block) : Same D w (w.setCell p u) := by
  intro b hD hl
  have hne : p.block ≠ b := fun e => h (e ▸ hD)
  unfold World.setCell
  simp only
  rw [Array.getElem?_modify, if_neg hne]
theorem Same.trans {D : Blocks} {a b c : World} (h1 : Same D a b) (hs : a.heap.size ≤ b.heap.size) (h2 : Same D b c) : Same D a c := fun k hD hl => (h2 k hD (by omega)).trans (h1 k hD hl)
theorem StrsD.keep {D D' : Blocks} {w w' : World} {v : Value} {l : List Str} (h : StrsD D w v l) (hs : Same D w w') (hD : ∀ b, D b → b < w.heap.size → D' b) : StrsD D' w' v l := by
  obtain ⟨A, cap, h1, h2, h3⟩ := h
  refine ⟨A, cap, h1, h2, fun h0 => ?_⟩
  obtain ⟨b, off, e, hd, hr⟩ := h3 h0
  have hl : b < w.heap.size := by
    obtain ⟨s, hs⟩ : ∃ s, l[0]? = some s := ⟨_, List.getElem?_eq_getElem h0⟩
    exact cell_lt (hr 0 s hs)
  exact ⟨b, off, e, hD b hd hl, fun i s hi => hs.cell hd (hr i s hi)⟩
theorem StrsD.is {D : Blocks} {w : World} {v : Value} {l : List Str} (h : StrsD D w v l) : IsStrs w v l := by
  obtain ⟨A, cap, h1, h2, h3⟩ := h
  exact ⟨A, cap, h1, h2, fun h0 => let ⟨b, off, e, _, hr⟩ := h3 h0; ⟨b, off, e, hr⟩⟩
theorem IsStrs.toD {w : World} {v : Value} {l : List Str} (h : IsStrs w v l) : StrsD (· < w.heap.size) w v l := by
  obtain ⟨A, cap, h1, h2, h3⟩ := h
  refine ⟨A, cap, h1, h2, fun h0 => ?_⟩
  obtain ⟨b, off, e, hr⟩ := h3 h0
  obtain ⟨s, hs⟩ : ∃ s, l[0]? = some s := ⟨_, List.getElem?_eq_getElem h0⟩
  exact ⟨b, off, e, cell_lt (hr 0 s hs), hr⟩
theorem own_set {w : World} {base : Nat} {e : TypeId} {size n : Nat} {v : Value} {xs : List Value} (h : w.ownsRow base e size v n xs) {p : Addr} (hp : p.block < base) (u : Value) : (w.setCell p u).ownsRow base e size v n xs := by
  refine h.kept (row := some p.block) ⟨rfl, rfl, rfl, by rw [World.size_setCell]; exact Nat.le_refl _, fun b hl hne => ?_⟩ ?_
  · exact (Same.set (D := fun k => k ≠ p.block) (w := w) (p := p) (u := u) (fun h => h rfl)) b (fun e => hne (by rw [e])) hl
  · rcases h.2 with ⟨rfl, _⟩ | ⟨g, cap, cur, rfl, hg, _⟩
    · exact Or.inl rfl
    · refine Or.inr fun e => ?_
      have e' : g = p.block := Option.some.inj e
      omega
/-- Where an answer lies: in some blocks that were there, or made since. -/
abbrev Out (B0 : Blocks) (n : Nat) : Blocks := fun b => B0 b ∨ n ≤ b
/-- Names that are around: a slice of texts; without an array it is nil. -/
structure Names (w : World) (v : Value) (l : List Str) : Prop where
  s : IsStrs w v l
  z : ∀ n c, v = .slice none n c → c = 0
theorem Names.keep {w w' : World} {v : Value} {l : List Str} (h : Names w v l) (hb : Below w.heap.size w w') : Names w' v l := ⟨h.s.keep hb, h.z⟩
theorem Names.one {w : World} {v : Value} {l : List Str} (h : Names w v l) : v.oneCell' = true := h.s.one
theorem Names.none (w : World) : Names w (.slice none 0 0) [] := ⟨⟨Option.none, 0, rfl, Nat.le_refl _, fun h => by simp at h⟩, fun n c e => by injection e with _ _ e; exact e.symm⟩
/-- All blocks. -/
abbrev All : Blocks := fun _ => True
theorem Same.refl (D : Blocks) (w : World) : Same D w w := fun _ _ _ => rfl
theorem StrsD.below {D : Blocks} {w w' : World} {v : Value} {t : List Str} (h : StrsD D w v t) (hb : Below w.heap.size w w') : StrsD D w' v t := h.keep (Same.below hb) fun _ h _ => h
theorem StrsD.one {D : Blocks} {w : World} {v : Value} {l : List Str} (h : StrsD D w v l) : v.oneCell' = true := h.is.one
theorem cell_ne {b : Nat} {i j : Nat} {w : World} {u : Value} (h : i ≠ j) : (w.setCell ⟨b, i, none⟩ u).cell? ⟨b, j, none⟩ = w.cell? ⟨b, j, none⟩ := World.cell?_setCell_other _ _ _ _ (fun e => h (by injection e))
theorem cell_eq {b : Nat} {i : Nat} {w : World} {u x : Value} (h : w.cell? ⟨b, i, none⟩ = some x) : (w.setCell ⟨b, i, none⟩ u).cell? ⟨b, i, none⟩ = some u := World.cell?_setCell_same' _ _ _ (by rw [h]; rfl)
theorem no_strs' (D : Blocks) (w : World) : StrsD D w (.slice none 0 0) [] := ⟨none, 0, rfl, Nat.le_refl _, fun h => by simp at h⟩
theorem StrsD.any {w : World} {v : Value} {l : List Str} (h : IsStrs w v l) : StrsD All w v l := h.toD.keep (Same.refl _ _) fun _ _ _ => trivial
theorem byte_at' {l : Str} {k : Nat} {b : UInt8} (h : l[k]? = some b) (hk : k < (⟨l.toArray⟩ : ByteArray).size) : (⟨l.toArray⟩ : ByteArray)[k]'hk = b := by
  have : (⟨l.toArray⟩ : ByteArray)[k]'hk = l[k]'(by simpa [ByteArray.size] using hk) := rfl
  rw [this]
  exact (List.getElem?_eq_some_iff.1 h).2
theorem ret_bool' {a b : Bool} (h : a = b) : Ending.returned (.bool a) = .returned (.bool b) := by rw [h]
theorem mk_inj {a b : Str} : ((⟨a.toArray⟩ : ByteArray) = ⟨b.toArray⟩) ↔ a = b := by
  constructor
  · intro h
    have := congrArg (fun x : ByteArray => x.data.toList) h
    simpa using this
  · rintro rfl; rfl
theorem str_eq (a b : Str) : ((⟨a.toArray⟩ : ByteArray).toList == (⟨b.toArray⟩ : ByteArray).toList) = decide (a = b) := by
  rw [Bool.eq_iff_iff, Lib.bytes_beq_iff, decide_eq_true_eq, mk_inj]
theorem grown_set (w : World) (p : Nat) (u : Value) : w.grownBy (w.setCell ⟨p, 0, none⟩ u) (some p) :=
  ⟨rfl, rfl, rfl, by rw [World.size_setCell]; exact Nat.le_refl _, fun b _ h => Below.heap_setCell w _ u b (fun e => h (by rw [e]))⟩
theorem grown_below {w w' : World} (h : Below w.heap.size w w') (row : Option Nat) : w.grownBy w' row := ⟨h.os, h.tape, h.output, h.size, fun b hl _ => h.block b hl⟩
theorem same_p {w w' : World} {p : Nat} (h : w.grownBy w' (some p)) : Same (· ≠ p) w w' := Same.grown h (fun b hb e => hb (by injection e))
structure Left (w : World) (p : Nat) (left : Int) : Prop where
  c : w.cell? ⟨p, 0, none⟩ = some (.int .i64 left)
  f : w.frozen? ⟨p, 0, none⟩ = false
theorem Left.lt {w : World} {p : Nat} {left : Int} (h : Left w p left) : p < w.heap.size := cell_lt h.c
theorem Left.keep {w w' : World} {p : Nat} {left : Int} (h : Left w p left) (hb : Below w.heap.size w w') : Left w' p left :=
  ⟨cell_keep h.c hb, (hb.frozen (p := ⟨p, 0, none⟩) h.lt).trans h.f⟩
theorem Left.set {w : World} {p : Nat} {left : Int} (h : Left w p left) (l' : Int) : Left (w.setCell ⟨p, 0, none⟩ (.int .i64 l')) p l' :=
  ⟨World.cell?_setCell_same' w _ _ (by rw [h.c]; rfl), by rw [World.frozen?_setCell]; exact h.f⟩
theorem Left.far {w : World} {p : Nat} {left : Int} (h : Left w p left) {a : Addr} (hq : a.block ≠ p) (x : Value) : Left (w.setCell a x) p left :=
  ⟨(World.cell?_setCell_far w a ⟨p, 0, none⟩ x hq).trans h.c, by rw [World.frozen?_setCell]; exact h.f⟩
theorem Left.far5 {w : World} {p q : Nat} {left : Int} (h : Left w p left) (hq : q ≠ p) (x0 x1 x2 x3 x4 : Value) :
    Left (((((w.setCell ⟨q, 0, none⟩ x0).setCell ⟨q, 1, none⟩ x1).setCell ⟨q, 2, none⟩ x2).setCell ⟨q, 3, none⟩ x3).setCell ⟨q, 4, none⟩ x4) p left := by
  have h0 := h.far (a := ⟨q, 0, none⟩) hq x0
  have h1 := h0.far (a := ⟨q, 1, none⟩) hq x1
  have h2 := h1.far (a := ⟨q, 2, none⟩) hq x2
  have h3 := h2.far (a := ⟨q, 3, none⟩) hq x3
  exact h3.far (a := ⟨q, 4, none⟩) hq x4
theorem grown_far {w wr : World} {row : Option Nat} (h : w.grownBy wr row) {a : Addr} (hq : w.heap.size ≤ a.block) (x : Value) : w.grownBy (wr.setCell a x) row := by
  refine ⟨h.os, h.tape, h.output, by rw [World.size_setCell]; exact h.size, fun b hl hne => ?_⟩
  rw [Below.heap_setCell wr a x b (by omega)]
  exact h.block b hl hne
theorem grown_fill {w wr : World} {row : Option Nat} {q : Nat} (h : w.grownBy wr row) (hq : w.heap.size ≤ q) (x0 x1 x2 x3 x4 : Value) :
    w.grownBy (((((wr.setCell ⟨q, 0, none⟩ x0).setCell ⟨q, 1, none⟩ x1).setCell ⟨q, 2, none⟩ x2).setCell ⟨q, 3, none⟩ x3).setCell ⟨q, 4, none⟩ x4) row := by
  have h0 := grown_far h (a := ⟨q, 0, none⟩) hq x0
  have h1 := grown_far h0 (a := ⟨q, 1, none⟩) hq x1
  have h2 := grown_far h1 (a := ⟨q, 2, none⟩) hq x2
  have h3 := grown_far h2 (a := ⟨q, 3, none⟩) hq x3
  exact grown_far h3 (a := ⟨q, 4, none⟩) hq x4
theorem own_mono {w : World} {base base' : Nat} {e : TypeId} {size n : Nat} {v : Value} {xs : List Value} (h : w.ownsRow base e size v n xs) (hb : base' ≤ base) : w.ownsRow base' e size v n xs := by
  refine ⟨h.1, h.2.imp id ?_⟩
  rintro ⟨g, cap, cur, h1, h2, h3⟩
  exact ⟨g, cap, cur, h1, by omega, h3⟩
theorem own_strs {D : Blocks} {w : World} {base : Nat} {E : TypeId} {v : Value} {l : List Str} {x : Str} (h : w.ownsRow base E 1 v (l.length + 1) ((l.map fun s => .string ⟨s.toArray⟩) ++ [.string ⟨x.toArray⟩])) (hD : ∀ b, base ≤ b → D b) : StrsD D w v (l ++ [x]) := by
  have hcells := fun g => h.cells (g := g)
  rcases h.2 with ⟨rfl, h0⟩ | ⟨g, cap, cur, rfl, hg, _, hn, _⟩
  · omega
  · refine ⟨_, cap, by simp, by simpa using hn, fun _ => ⟨g, 0, rfl, hD g hg, fun i s hi => ?_⟩⟩
    have := hcells g rfl i (.string ⟨s.toArray⟩) (by
      have e : ((l.map fun s => Value.string ⟨s.toArray⟩) ++ [Value.string ⟨x.toArray⟩]) = (l ++ [x]).map fun s => Value.string ⟨s.toArray⟩ := by simp
      rw [e, List.getElem?_map, hi]; rfl)
    rw [Go.WideShapes.add_plain] at this
    exact this
theorem names_src {w : World} {A : Option Addr} {n c : Nat} {l : List Str} (h : IsStrs w (.slice A n c) l) : ∀ ad, A = some ad → ∀ j u, (l.map fun s => Value.string ⟨s.toArray⟩)[j]? = some u → w.cell? (ad.add j) = some u := by
  obtain ⟨A', c', e, _, h3⟩ := h
  injection e with e1 e2 e3
  subst e1
  intro ad e j u hj
  have hjl : j < l.length := by
    have := (List.getElem?_eq_some_iff.1 hj).1
    simpa using this
  obtain ⟨b, off, e', hr⟩ := h3 (by omega)
  rw [e] at e'
  obtain rfl := Option.some.inj e'
  rw [List.getElem?_map, List.getElem?_eq_getElem hjl] at hj
  simp only [Option.map_some, Option.some.injEq] at hj
  subst hj
  rw [Go.WideShapes.add_plain]
  exact hr j _ (List.getElem?_eq_getElem hjl)
theorem own_names {w : World} {base : Nat} {E : TypeId} {v : Value} {l : List Str} {x : Str} (h : w.ownsRow base E 1 v (l.length + 1) ((l.map fun s => .string ⟨s.toArray⟩) ++ [.string ⟨x.toArray⟩])) : Names w v (l ++ [x]) := by
  refine ⟨(own_strs (D := fun _ => True) h fun _ _ => trivial).is, fun n c e => ?_⟩
  rcases h.2 with ⟨_, h0⟩ | ⟨g, cap, cur, e', _⟩
  · omega
  · rw [e'] at e; cases e
theorem ones_strs (l : List Str) : ∀ u ∈ l.map (fun s => Value.string ⟨s.toArray⟩), u.oneCell' = true := by
  intro u hu
  obtain ⟨s, _, rfl⟩ := List.mem_map.1 hu
  rfl
theorem grown_in {w wr : World} {row : Option Nat} (h : w.grownBy wr row) {a : Addr} (hq : w.heap.size ≤ a.block) (x : Value) : w.grownBy (wr.setCell a x) row := by
  refine ⟨h.os, h.tape, h.output, by rw [World.size_setCell]; exact h.size, fun k hl hne => ?_⟩
  rw [← h.block k hl hne]
  unfold World.setCell
  simp only
  rw [Array.getElem?_modify, if_neg (by omega)]
/-- A row of numbers. -/
def IntRow (w : World) (b off : Nat) (l : List Int) : Prop := ∀ i x, l[i]? = some x → w.cell? ⟨b, off + i, none⟩ = some (.int .i64 x)
/-- A slice of numbers. -/
def IntsD (D : Blocks) (w : World) (v : Value) (l : List Int) : Prop := ∃ A cap, v = .slice A l.length cap ∧ l.length ≤ cap ∧ (0 < l.length → ∃ b off, A = some ⟨b, off, none⟩ ∧ D b ∧ IntRow w b off l)
theorem IntsD.keep {D D' : Blocks} {w w' : World} {v : Value} {l : List Int} (h : IntsD D w v l) (hs : Same D w w') (hD : ∀ b, D b → b < w.heap.size → D' b) : IntsD D' w' v l := by
  obtain ⟨A, cap, h1, h2, h3⟩ := h
  refine ⟨A, cap, h1, h2, fun h0 => ?_⟩
  obtain ⟨b, off, e, hd, hr⟩ := h3 h0
  have hl : b < w.heap.size := by
    obtain ⟨s, hs⟩ : ∃ s, l[0]? = some s := ⟨_, List.getElem?_eq_getElem h0⟩
    exact cell_lt (hr 0 s hs)
  exact ⟨b, off, e, hD b hd hl, fun i s hi => hs.cell hd (hr i s hi)⟩
theorem IntsD.below {D : Blocks} {w w' : World} {v : Value} {t : List Int} (h : IntsD D w v t) (hb : Below w.heap.size w w') : IntsD D w' v t := h.keep (Same.below hb) fun _ h _ => h
theorem IntsD.one {D : Blocks} {w : World} {v : Value} {l : List Int} (h : IntsD D w v l) : v.oneCell' = true := by obtain ⟨A, cap, rfl, _⟩ := h; rfl
theorem IntsD.all {D : Blocks} {w : World} {v : Value} {l : List Int} (h : IntsD D w v l) : IntsD All w v l := h.keep (Same.refl _ _) fun _ _ _ => trivial
theorem no_ints (D : Blocks) (w : World) : IntsD D w (.slice none 0 0) [] := ⟨none, 0, rfl, Nat.le_refl _, fun h => by simp at h⟩
/-- An owned row of numbers. -/
theorem own_ints {D : Blocks} {w : World} {base : Nat} {E : TypeId} {v : Value} {l : List Int} (h : w.ownsRow base E 1 v l.length (l.map (Value.int .i64))) (hD : ∀ b, base ≤ b → D b) : IntsD D w v l := by
  have hcells := fun g => h.cells (g := g)
  rcases h.2 with ⟨rfl, h0⟩ | ⟨g, cap, cur, rfl, hg, _, hn, _⟩
  · exact ⟨none, 0, by rw [h0], by omega, fun h1 => by omega⟩
  · refine ⟨_, cap, rfl, hn, fun _ => ⟨g, 0, rfl, hD g hg, fun i x hi => ?_⟩⟩
    have := hcells g rfl i (.int .i64 x) (by rw [List.getElem?_map, hi]; rfl)
    rw [Go.WideShapes.add_plain] at this
    exact this
/-- An owned row of texts. -/
theorem own_strs' {D : Blocks} {w : World} {base : Nat} {E : TypeId} {v : Value} {l : List Str} (h : w.ownsRow base E 1 v l.length (l.map fun s => .string ⟨s.toArray⟩)) (hD : ∀ b, base ≤ b → D b) : StrsD D w v l := by
  have hcells := fun g => h.cells (g := g)
  rcases h.2 with ⟨rfl, h0⟩ | ⟨g, cap, cur, rfl, hg, _, hn, _⟩
  · exact ⟨none, 0, by rw [h0], by omega, fun h1 => by omega⟩
  · refine ⟨_, cap, rfl, hn, fun _ => ⟨g, 0, rfl, hD g hg, fun i x hi => ?_⟩⟩
    have := hcells g rfl i (.string ⟨x.toArray⟩) (by rw [List.getElem?_map, hi]; rfl)
    rw [Go.WideShapes.add_plain] at this
    exact this
end Go.Proofs.YtmklodgcbldndaaDoor
namespace Go.Proofs.YtmklodgcbldndaaDoor
open Go.RowKit Go.Proofs

/-- The value of a list of words. -/
def wval : List Nat → Nat
  | [] => 0
  | d :: r => d + 4294967296 * wval r
/-- All are words. -/
def Ws (l : List Nat) : Prop := ∀ d ∈ l, d < 4294967296
/-- No nought at the end. -/
def Trimmed (l : List Nat) : Prop := ∀ d, l.getLast? = some d → d ≠ 0
/-- The noughts at the end struck. -/
def trimW : List Nat → List Nat
  | [] => []
  | d :: r => match trimW r with
    | [] => if d = 0 then [] else [d]
    | e :: q => d :: e :: q
theorem trimW_val : ∀ l : List Nat, wval (trimW l) = wval l
  | [] => rfl
  | d :: r => by
    have ih := trimW_val r
    unfold trimW
    split
    · rename_i h; rw [h] at ih
      simp only [wval] at ih
      split
      · rename_i h0; simp [wval, h0, ← ih]
      · simp [wval, ← ih]
    · rename_i e q h; rw [h] at ih
      simp only [wval]
      rw [← ih]
      simp only [wval]
theorem trimW_trimmed : ∀ l : List Nat, Trimmed (trimW l)
  | [] => by simp [trimW, Trimmed]
  | d :: r => by
    have ih := trimW_trimmed r
    unfold trimW
    split
    · split
      · simp [Trimmed]
      · rename_i h0; simpa [Trimmed] using h0
    · rename_i e q h; rw [h] at ih
      intro x hx
      rw [List.getLast?_cons_cons] at hx
      exact ih x hx
theorem trimW_take : ∀ l : List Nat, trimW l = l.take (trimW l).length
  | [] => rfl
  | d :: r => by
    have ih := trimW_take r
    unfold trimW
    split
    · split <;> simp
    · rename_i e q h
      rw [h] at ih
      simp only [List.length_cons, List.take_succ_cons]
      rw [List.length_cons] at ih
      rw [← ih]
theorem trimW_len (l : List Nat) : (trimW l).length ≤ l.length := by
  have := congrArg List.length (trimW_take l)
  rw [List.length_take] at this
  omega
theorem trimW_snoc (l : List Nat) (d : Nat) : trimW (l ++ [d]) = if d = 0 then trimW l else l ++ [d] := by
  induction l with
  | nil => simp [trimW]
  | cons x r ih =>
    rw [List.cons_append, trimW, ih]
    by_cases h : d = 0
    · rw [if_pos h, if_pos h, trimW]
    · rw [if_neg h, if_neg h]
      cases r <;> simp
theorem Ws.trim {l : List Nat} (h : Ws l) : Ws (trimW l) := fun d hd => h d (by rw [trimW_take] at hd; exact List.mem_of_mem_take hd)
theorem trimmed_trim {l : List Nat} (h : Trimmed l) : trimW l = l := by
  rcases List.eq_nil_or_concat l with rfl | ⟨q, d, rfl⟩
  · rfl
  · rw [List.concat_eq_append] at h ⊢
    rw [trimW_snoc, if_neg (h d (by simp))]
theorem wval_app (l r : List Nat) : wval (l ++ r) = wval l + 4294967296 ^ l.length * wval r := by
  induction l with
  | nil => simp [wval]
  | cons d l ih =>
    simp only [List.cons_append, wval, ih, List.length_cons, Nat.pow_succ]
    rw [Nat.mul_add, ← Nat.mul_assoc, Nat.add_assoc, Nat.mul_comm 4294967296 (4294967296 ^ l.length)]
theorem wval_lt {l : List Nat} (h : Ws l) : wval l < 4294967296 ^ l.length := by
  induction l with
  | nil => simp [wval]
  | cons d l ih =>
    have h1 := h d (by simp)
    have h2 := ih fun x hx => h x (by simp [hx])
    simp only [wval, List.length_cons, Nat.pow_succ]
    have : wval l + 1 ≤ 4294967296 ^ l.length := h2
    have h3 := Nat.mul_le_mul_left 4294967296 this
    rw [Nat.mul_comm (4294967296 ^ l.length)]
    omega
theorem wval_zero {l : List Nat} (h : Trimmed l) : wval l = 0 ↔ l = [] := by
  constructor
  · intro h0
    rcases List.eq_nil_or_concat l with rfl | ⟨q, d, rfl⟩
    · rfl
    · rw [List.concat_eq_append] at h h0
      have hd := h d (by simp)
      rw [wval_app] at h0
      simp only [wval, Nat.mul_zero, Nat.add_zero] at h0
      have : 0 < 4294967296 ^ q.length * d := Nat.mul_pos (Nat.pow_pos (by decide)) (Nat.pos_of_ne_zero hd)
      omega
  · rintro rfl; rfl
/-- Two lists of words without noughts at the end of one value are the same. -/
theorem wval_inj : ∀ {l r : List Nat}, Ws l → Ws r → Trimmed l → Trimmed r → wval l = wval r → l = r
  | [], r, _, _, _, h4, h => ((wval_zero h4).1 h.symm).symm
  | d :: l, [], _, _, h3, _, h => (wval_zero h3).1 h
  | d :: l, e :: r, h1, h2, h3, h4, h => by
    simp only [wval] at h
    have hd := h1 d (by simp)
    have he := h2 e (by simp)
    have : d = e := by omega
    subst this
    have h' : wval l = wval r := by omega
    have t1 : Trimmed l := fun x hx => h3 x (by
      cases l with
      | nil => simp at hx
      | cons a b => rw [List.getLast?_cons_cons]; exact hx)
    have t2 : Trimmed r := fun x hx => h4 x (by
      cases r with
      | nil => simp at hx
      | cons a b => rw [List.getLast?_cons_cons]; exact hx)
    rw [wval_inj (fun x hx => h1 x (by simp [hx])) (fun x hx => h2 x (by simp [hx])) t1 t2 h']
/-- The words of a number. -/
def wordsOf (n : Nat) : List Nat := if h : n = 0 then [] else (n % 4294967296) :: wordsOf (n / 4294967296)
termination_by n
decreasing_by omega
theorem wordsOf_val (n : Nat) : wval (wordsOf n) = n := by
  induction n using Nat.strongRecOn with
  | _ n ih =>
    rw [wordsOf]
    split
    · rename_i h; simp [wval, h]
    · rename_i h
      simp only [wval]
      rw [ih (n / 4294967296) (by omega)]
      omega
theorem wordsOf_ws (n : Nat) : Ws (wordsOf n) := by
  induction n using Nat.strongRecOn with
  | _ n ih =>
    rw [wordsOf]
    split
    · intro d hd; simp at hd
    · rename_i h
      intro d hd
      rcases List.mem_cons.1 hd with rfl | hd
      · omega
      · exact ih (n / 4294967296) (by omega) d hd
theorem wordsOf_nil {n : Nat} : wordsOf n = [] ↔ n = 0 := by
  rw [wordsOf]
  split <;> simp_all
theorem wordsOf_trimmed (n : Nat) : Trimmed (wordsOf n) := by
  induction n using Nat.strongRecOn with
  | _ n ih =>
    rw [wordsOf]
    split
    · simp [Trimmed]
    · rename_i h
      intro d hd
      cases hw : wordsOf (n / 4294967296) with
      | nil =>
        rw [hw] at hd
        simp at hd
        have := wordsOf_nil.1 hw
        omega
      | cons a b =>
        rw [hw, List.getLast?_cons_cons, ← hw] at hd
        exact ih (n / 4294967296) (by omega) d hd
theorem words_is {l : List Nat} (h1 : Ws l) (h2 : Trimmed l) : l = wordsOf (wval l) :=
  wval_inj h1 (wordsOf_ws _) h2 (wordsOf_trimmed _) (wordsOf_val _).symm
theorem trim_words {l : List Nat} (h1 : Ws l) : trimW l = wordsOf (wval l) := by
  rw [← trimW_val]
  exact words_is h1.trim (trimW_trimmed l)
theorem wordsOf_len {n k : Nat} (h : n < 4294967296 ^ k) : (wordsOf n).length ≤ k := by
  induction k generalizing n with
  | zero =>
    have : n = 0 := by simpa using h
    subst this
    simp [wordsOf]
  | succ k ih =>
    rw [wordsOf]
    split
    · simp
    · simp only [List.length_cons]
      have : n / 4294967296 < 4294967296 ^ k := by
        rw [Nat.pow_succ] at h
        exact Nat.div_lt_of_lt_mul (by rw [Nat.mul_comm]; exact h)
      have := ih this
      omega
/-- Division by one word, from the greatest word down: of a list's words from k on, quotient and rest. -/
theorem div_step (l : List Nat) (k : Nat) (d : Nat) (hk : k < l.length) : wval (l.drop k) = l.getD k 0 + 4294967296 * wval (l.drop (k + 1)) := by
  rw [List.drop_eq_getElem_cons hk]
  simp [wval, List.getD, hk]
/-- Decimal digits, the least first. -/
def digs (n : Nat) : List UInt8 := if h : n = 0 then [] else UInt8.ofNat (48 + n % 10) :: digs (n / 10)
termination_by n
decreasing_by omega
theorem digs_dec (n : Nat) (h : n ≠ 0) : (digs n).reverse = Lib.decDigits n := by
  induction n using Nat.strongRecOn with
  | _ n ih =>
    rw [digs, dif_neg h, Lib.decDigits]
    by_cases h10 : n < 10
    · rw [dif_pos h10, digs, dif_pos (by omega)]
      simp [Nat.mod_eq_of_lt h10]
    · rw [dif_neg h10, List.reverse_cons, ih (n / 10) (by omega) (by omega)]
theorem itoa_text (n : Int) (h : n ≠ 0) : (if n < 0 then (digs n.natAbs ++ [45]).reverse else (digs n.natAbs).reverse) = Lib.itoa n := by
  unfold Lib.itoa
  split
  · rw [List.reverse_append, digs_dec _ (by omega)]; rfl
  · rw [digs_dec _ (by omega)]
    congr 1
    omega
theorem itoa_zero : Lib.itoa 0 = [48] := by decide +kernel
theorem digs_len {n k : Nat} (h : n < 10 ^ k) : (digs n).length ≤ k := by
  induction k generalizing n with
  | zero =>
    have : n = 0 := by simpa using h
    subst this
    simp [digs]
  | succ k ih =>
    rw [digs]
    split
    · simp
    · simp only [List.length_cons]
      have : n / 10 < 10 ^ k := by
        rw [Nat.pow_succ] at h
        exact Nat.div_lt_of_lt_mul (by rw [Nat.mul_comm]; exact h)
      have := ih this
      omega
end Go.Proofs.YtmklodgcbldndaaDoor
namespace Go.Proofs.YtmklodgcbldndaaDoor
open Go.RowKit Go.Proofs

set_option maxRecDepth 100000
/-- A slice of words. -/
def Wds (D : Blocks) (w : World) (v : Value) (l : List Nat) : Prop := ∃ A cap, v = .slice A l.length cap ∧ l.length ≤ cap ∧ (A = none → cap = 0) ∧ (0 < l.length → ∃ b off, A = some ⟨b, off, none⟩ ∧ D b ∧ ∀ i x, l[i]? = some x → w.cell? ⟨b, off + i, none⟩ = some (.int .u32 (x : Nat)))
theorem Wds.keep {D D' : Blocks} {w w' : World} {v : Value} {l : List Nat} (h : Wds D w v l) (hs : Same D w w') (hD : ∀ b, D b → b < w.heap.size → D' b) : Wds D' w' v l := by
  obtain ⟨A, cap, h1, h2, hz, h3⟩ := h
  refine ⟨A, cap, h1, h2, hz, fun h0 => ?_⟩
  obtain ⟨b, off, e, hd, hr⟩ := h3 h0
  have hl : b < w.heap.size := by
    obtain ⟨s, hs⟩ : ∃ s, l[0]? = some s := ⟨_, List.getElem?_eq_getElem h0⟩
    exact cell_lt (hr 0 s hs)
  exact ⟨b, off, e, hD b hd hl, fun i s hi => hs.cell hd (hr i s hi)⟩
theorem Wds.below {D : Blocks} {w w' : World} {v : Value} {t : List Nat} (h : Wds D w v t) (hb : Below w.heap.size w w') : Wds D w' v t := h.keep (Same.below hb) fun _ h _ => h
theorem Wds.none (D : Blocks) (w : World) : Wds D w (.slice Option.none 0 0) [] := ⟨Option.none, 0, rfl, Nat.le_refl _, fun _ => rfl, fun h => by simp at h⟩
theorem trimW_back {l : List Nat} {k : Nat} {x : Nat} (h : l[k]? = some x) : trimW (l.take (k + 1)) = if x = 0 then trimW (l.take k) else l.take (k + 1) := by
  obtain ⟨h1, h2⟩ := List.getElem?_eq_some_iff.1 h
  rw [List.take_add_one, h]
  exact trimW_snoc _ _
set_option maxHeartbeats 1000000 in
theorem btrim_any (D : Blocks) (v : Value) (l : List Nat) (w : World) (hv : Wds D w v l) (hl : l.length ≤ 1000000) :
    Calls Tryd.prog 99 #[v] w fun e w' => (∃ v', e = .returned v' ∧ Wds D w v' (trimW l)) ∧ w' = w := by
  have HV := Lib.hid hv
  obtain ⟨A, cap, rfl, hc, hz, h3⟩ := hv
  have H3 := Lib.hid h3
  have HZ := Lib.hid hz
  obtain ⟨L, hL⟩ : ∃ L, l.length = L := ⟨_, rfl⟩
  have HL := Lib.hid hL
  rw [hL] at hc hl ⊢
  clear h3 hz hL
  obtain ⟨RES, hR⟩ : ∃ x, trimW l = x := ⟨_, rfl⟩
  have HR := Lib.hid hR
  rw [hR]
  clear hR
  go_enter Tryd.func99, Tryd.ntmps99
  go_wp2_with fail
  go_loop [3] (fun n => ∃ k : Nat, k ≤ L ∧ n = .int .i64 k ∧ Hid (trimW l = trimW (l.take k))) (fun n => (intOf n).toNat)
  case atStart => exact ⟨L, Nat.le_refl _, rfl, by show _ = _; rw [List.take_of_length_le (by have := HL.out; omega)]⟩
  case round =>
    obtain ⟨k, hk, rfl, hs⟩ := hrel
    cases k with
    | zero =>
      have hres : RES = [] := by have := hs.out; rw [HR.out] at this; rw [this]; rfl
      have HRS := Lib.hid hres
      clear hres hs
      go_wp2_with fail
      go_ret
      refine ⟨⟨_, rfl, A, cap, ?_, ?_, HZ.out, ?_⟩, rfl⟩
      · rw [HRS.out]; rfl
      · rw [HRS.out]; exact Nat.zero_le _
      · rw [HRS.out]; intro h; simp at h
    | succ j =>
      obtain ⟨x, hx⟩ : ∃ y, l[j]? = some y := ⟨_, List.getElem?_eq_getElem (by have := HL.out; omega)⟩
      obtain ⟨b, off, rfl, hd, hr⟩ := H3.out (by have := HL.out; omega)
      have hcell := hr j x hx
      have HX := Lib.hid hx
      have HDR := Lib.hid (⟨hd, hr⟩ : D b ∧ ∀ i x, l[i]? = some x → w.cell? ⟨b, off + i, none⟩ = some (.int .u32 (x : Nat)))
      clear hx hr hd
      by_cases h0 : x = 0
      · subst h0
        have hs2 : trimW l = trimW (l.take j) := by rw [hs.out, trimW_back HX.out, if_pos rfl]
        have HS2 := Lib.hid hs2
        clear hs hs2
        go_wp2_with fail
        go_round
        case rel => exact ⟨j, by omega, by go_num, HS2⟩
        case measure => first | (simp [intOf]; done) | (simp [intOf]; omega)
      · have hs2 : RES = l.take (j + 1) := by rw [← HR.out, hs.out, trimW_back HX.out, if_neg h0]
        have HS2 := Lib.hid hs2
        have hx0 : ((x : Int) == 0) = false := by rw [beq_eq_false_iff_ne]; omega
        clear hs hs2 h0
        go_wp2_with fail
        go_ret
        have hlen : RES.length = j + 1 := by rw [HS2.out, List.length_take]; have := HL.out; omega
        refine ⟨⟨_, rfl, some ⟨b, off, none⟩, cap, ?_, by omega, (fun e => by cases e), fun _ => ⟨b, off, rfl, HDR.out.1, fun i y hi => ?_⟩⟩, rfl⟩
        · rw [hlen]; rfl
        · rw [HS2.out] at hi
          exact HDR.out.2 i y (by rw [List.getElem?_take] at hi; split at hi <;> first | exact hi | cases hi)
theorem two_words (n : Nat) (h : n < 18446744073709551616) : trimW [n % 4294967296, n / 4294967296] = wordsOf n := by
  rw [trim_words (fun d hd => by simp at hd; rcases hd with rfl | rfl <;> omega)]
  simp only [wval]
  congr 1
  omega
theorem rt_words : RowType Tryd.prog 82 112 1 4 := .mk' (z := .int .u32 0) Tryd.underlying82 (by kernel_rfl) rfl (by decide)
theorem own_wds {D : Blocks} {w : World} {base : Nat} {E : TypeId} {v : Value} {l : List Nat} (h : w.ownsRow base E 1 v l.length (l.map fun x : Nat => .int .u32 x)) (hD : ∀ b, base ≤ b → D b) : Wds D w v l := by
  have hcells := fun g => h.cells (g := g)
  rcases h.2 with ⟨rfl, h0⟩ | ⟨g, cap, cur, rfl, hg, _, hn, _⟩
  · exact ⟨Option.none, 0, by rw [h0], by omega, fun _ => rfl, fun h1 => by omega⟩
  · refine ⟨_, cap, rfl, hn, (fun e => by cases e), fun _ => ⟨g, 0, rfl, hD g hg, fun i x hi => ?_⟩⟩
    have := hcells g rfl i (.int .u32 (x : Nat)) (by rw [List.getElem?_map, hi]; rfl)
    rw [Go.WideShapes.add_plain] at this
    exact this
theorem Wds.src {D : Blocks} {w : World} {A : Option Addr} {n c : Nat} {l : List Nat} (h : Wds D w (.slice A n c) l) : ∀ ad, A = some ad → ∀ j u, (l.map fun x : Nat => Value.int .u32 x)[j]? = some u → w.cell? (ad.add j) = some u := by
  obtain ⟨A', c', e, _, _, h3⟩ := h
  injection e with e1 e2 e3
  subst e1
  intro ad e j u hj
  have hjl : j < l.length := by
    have := (List.getElem?_eq_some_iff.1 hj).1
    simpa using this
  obtain ⟨b, off, e', _, hr⟩ := h3 (by omega)
  rw [e] at e'
  obtain rfl := Option.some.inj e'
  rw [List.getElem?_map, List.getElem?_eq_getElem hjl] at hj
  simp only [Option.map_some, Option.some.injEq] at hj
  subst hj
  rw [Go.WideShapes.add_plain]
  exact hr j _ (List.getElem?_eq_getElem hjl)
set_option maxHeartbeats 1000000 in
theorem words_any (n : Nat) (w : World) (hn : n < 18446744073709551616) :
    Calls Tryd.prog 71 #[.int .u64 n] w fun e w' => (∃ v', e = .returned v' ∧ Wds (fun k => w.heap.size ≤ k) w' v' (wordsOf n)) ∧ Below w.heap.size w w' := by
  have HN := Lib.hid (two_words n hn)
  go_enter Tryd.func71, Tryd.ntmps71
  go_wp2_with fail
  refine (btrim_any (fun k => w.heap.size ≤ k) _ [n % 4294967296, n / 4294967296] _ ⟨_, 2, rfl, Nat.le_refl _, (fun e => by cases e), fun _ => ⟨w.heap.size, 0, rfl, Nat.le_refl _, fun i x hi => ?_⟩⟩ (by simp)).mono ?_
  · match i, hi with
    | 0, hi | 1, hi => simp at hi; subst hi; simp [go_sem]
    | i + 2, hi => simp at hi
  · rintro e w1 ⟨⟨v, rfl, hv⟩, rfl⟩
    rw [HN.out] at hv
    go_wp2_with fail
    go_ret
    exact ⟨⟨v, rfl, hv⟩, by go_grown⟩
set_option maxHeartbeats 1000000 in
theorem twin_any (D : Blocks) (v : Value) (l : List Nat) (w : World) (hv : Wds D w v l) (hl : l.length ≤ 1000000) :
    Calls Tryd.prog 72 #[v] w fun e w' => (∃ v', e = .returned v' ∧ Wds (fun k => w.heap.size ≤ k) w' v' l) ∧ Below w.heap.size w w' := by
  have HV := Lib.hid hv
  obtain ⟨A, cap, rfl, hc, hz, h3⟩ := hv
  have hA : A = none → l.length = 0 ∧ cap = 0 := fun e => ⟨by have := hz e; omega, hz e⟩
  have HA := Lib.hid hA
  clear hz h3 hA
  go_enter Tryd.func72, Tryd.ntmps72
  go_wp2_with (at_builtin; go_must (refine wpList_app_any rt_words rfl (.const (.slice none 0 0)) (.tmp 3) rfl w.heap.size _ 0 [] rfl (World.ownsRow_nil _ _ _ _) A l.length cap rfl (l.map fun x : Nat => .int .u32 x) (by simp) HA.out HV.out.src (by intro u hu; obtain ⟨s, _, rfl⟩ := List.mem_map.1 hu; rfl) (by unfold maxLen; omega) (by omega) (Nat.le_refl _) ?_; intro v1 w2 o1 o2; simp only [Nat.zero_add, List.nil_append] at o1; obtain ⟨A5, c5, rfl⟩ := own_form o1))
  go_ret
  exact ⟨⟨_, rfl, own_wds o1 fun _ h => h⟩, o2⟩
/-- The digits of a division by one word. -/
def qd (d : Nat) : List Nat → List Nat
  | [] => []
  | x :: r => ((wval r % d) * 4294967296 + x) / d :: qd d r
theorem qd_len (d : Nat) : ∀ l, (qd d l).length = l.length
  | [] => rfl
  | x :: r => by simp [qd, qd_len d r]
theorem qd_val (d : Nat) (hd : 0 < d) : ∀ l, wval (qd d l) = wval l / d
  | [] => by simp [qd, wval]
  | x :: r => by
    simp only [qd, wval, qd_val d hd r]
    have h := Nat.div_add_mod (wval r) d
    have : x + 4294967296 * wval r = ((wval r % d) * 4294967296 + x) + d * (4294967296 * (wval r / d)) := by
      have h2 : 4294967296 * wval r = 4294967296 * (d * (wval r / d) + wval r % d) := by rw [h]
      rw [h2, Nat.mul_add, ← Nat.mul_assoc, Nat.mul_comm 4294967296 d, Nat.mul_assoc, Nat.mul_comm 4294967296 (wval r % d)]
      omega
    rw [this, Nat.add_mul_div_left _ _ hd]
theorem qd_ws (d : Nat) (hd : 0 < d) (hd2 : d < 4294967296) : ∀ l, Ws l → Ws (qd d l)
  | [], _ => by intro x hx; simp [qd] at hx
  | x :: r, h => by
    intro y hy
    simp only [qd, List.mem_cons] at hy
    rcases hy with rfl | hy
    · have h1 := h x (by simp)
      have h2 := Nat.mod_lt (wval r) hd
      have h3 := Nat.mul_le_mul_right 4294967296 (show wval r % d + 1 ≤ d from h2)
      generalize wval r % d = m at h2 h3 ⊢
      rw [Nat.div_lt_iff_lt_mul hd]
      rw [Nat.add_mul] at h3
      omega
    · exact qd_ws d hd hd2 r (fun z hz => h z (by simp [hz])) y hy
theorem qd_at (d : Nat) : ∀ (l : List Nat) (i : Nat) (x : Nat), l[i]? = some x → (qd d l)[i]? = some (((wval (l.drop (i + 1)) % d) * 4294967296 + x) / d)
  | [], i, x, h => by simp at h
  | y :: r, 0, x, h => by simp at h; subst h; simp [qd]
  | y :: r, i + 1, x, h => by
    simp only [List.getElem?_cons_succ] at h
    simp only [qd, List.getElem?_cons_succ, List.drop_succ_cons]
    exact qd_at d r i x h
theorem rem_step (d : Nat) (l : List Nat) (i x : Nat) (h : l[i]? = some x) : wval (l.drop i) % d = ((wval (l.drop (i + 1)) % d) * 4294967296 + x) % d := by
  obtain ⟨h1, h2⟩ := List.getElem?_eq_some_iff.1 h
  rw [List.drop_eq_getElem_cons h1, h2]
  simp only [wval]
  generalize wval (l.drop (i + 1)) = W
  rw [Nat.add_comm x, Nat.mul_comm 4294967296]
  conv => lhs; rw [Nat.add_mod, Nat.mul_mod]
  conv => rhs; rw [Nat.add_mod, Nat.mul_mod, Nat.mod_mod]
/-- A block of which a cell is written. -/
theorem block_set {w : World} {b : Nat} {C : Array Value} {T : TypeId} (h : w.heap[b]? = some (.cells C T (0, 0))) (i : Nat) (v : Value) : (w.setCell ⟨b, i, none⟩ v).heap[b]? = some (.cells (C.setIfInBounds i v) T (0, 0)) := by
  unfold World.setCell
  simp only [Array.getElem?_modify, if_true, h, Option.map_some]
  rfl
theorem run_shl32 (r : Nat) (w : World) (h : r < 4294967296) : (binOp .shl 103 (.int .u64 r) (.int .u64 32)).run Tryd.prog w = .ok (.int .u64 ((r * 4294967296 : Nat) : Int)) w := by
  go_simp
  rw [Go.IntWalk.u64_in _ (by omega)]
theorem bits_or (a b : Nat) (ha : a < 18446744073709551616) (hb : b < 18446744073709551616) : bits .or .u64 (a : Int) (b : Int) = ((a ||| b : Nat) : Int) := by
  have e : ∀ n : Nat, n < 18446744073709551616 → (BitVec.ofInt 64 (n : Int)).toNat = n := fun n hn => by
    rw [BitVec.ofInt_natCast, BitVec.toNat_ofNat]
    exact Nat.mod_eq_of_lt hn
  have hor : a ||| b < 18446744073709551616 := Nat.or_lt_two_pow (n := 64) ha hb
  show IntKind.u64.wrap (((BitVec.ofInt 64 (a : Int)) ||| (BitVec.ofInt 64 (b : Int))).toNat : Int) = _
  rw [BitVec.toNat_or, e a ha, e b hb, Go.IntWalk.u64_in _ (by omega)]
theorem or_add (r x : Nat) (hx : x < 4294967296) : r * 4294967296 ||| x = r * 4294967296 + x := by
  have := Nat.shiftLeft_add_eq_or_of_lt (i := 32) hx r
  rw [Nat.shiftLeft_eq] at this
  exact this.symm
theorem run_or32 (r x : Nat) (w : World) (h : r < 4294967296) (hx : x < 4294967296) : (binOp .or 103 (.int .u64 ((r * 4294967296 : Nat) : Int)) (.int .u64 x)).run Tryd.prog w = .ok (.int .u64 ((r * 4294967296 + x : Nat) : Int)) w := by
  have hb := bits_or (r * 4294967296) x (by omega) (by omega)
  rw [or_add r x hx] at hb
  go_simp
  rw [Int.natCast_mul, Int.natCast_add, Int.natCast_mul] at hb
  exact hb
set_option maxHeartbeats 2000000 in
theorem bsmall_any (D : Blocks) (v : Value) (l : List Nat) (d : Nat) (w : World) (hv : Wds D w v l) (hl : l.length ≤ 1000000) (h0 : 0 < l.length) (hd0 : 0 < d) (hd : d < 4294967296) (hW : Ws l) :
    Calls Tryd.prog 73 #[v, .int .u32 d] w fun e w' => (∃ v', e = .returned (.tuple #[v', .int .u32 (wval l % d : Nat)]) ∧ Wds (fun k => w.heap.size ≤ k) w' v' (wordsOf (wval l / d))) ∧ Below w.heap.size w w' := by
  have HV := Lib.hid hv
  obtain ⟨A, cap, rfl, hc, hz, h3⟩ := hv
  obtain ⟨b, off, rfl, hD, hr⟩ := h3 h0
  have HR := Lib.hid hr
  obtain ⟨L, hL⟩ : ∃ L, l.length = L := ⟨_, rfl⟩
  have HL := Lib.hid hL
  rw [hL] at hc hl h0 ⊢
  have HW := Lib.hid hW
  clear h3 hz hL hr hW
  obtain ⟨i0, z0, hi, hz0, hz1, hz2, -⟩ := rt_words.ex
  obtain ⟨M, hM⟩ : ∃ M, M = madeCells z0.cells ((L : Int).toNat * i0.size) := ⟨_, rfl⟩
  have hMs : M.size = L := by rw [hM, size_madeCells, hz1]; simp
  have hmk : ∀ W : World, (Instr.makeSlice 82 (.int .i64 (L : Int)) (.int .i64 (L : Int))).run Tryd.prog W = .ok (.slice (some ⟨W.heap.size, 0, none⟩) L L) (W.alloc (.cells M 112)) := fun W => by
    have h := run_make (P := Tryd.prog) W 82 112 i0 _ Tryd.underlying82 hi hz0 .i64 .i64 (L : Int) (L : Int) (by omega) (by omega) (by rw [hz2]; omega) (by omega)
    rw [← hM] at h
    simpa using h
  have HMS := Lib.hid hMs
  clear hM hi hz0 hz1 hz2 hMs
  go_enter Tryd.func73, Tryd.ntmps73
  go_wp2_with fail
  obtain ⟨W, hW⟩ : ∃ W, w.alloc (.cells M 112) = W := ⟨_, rfl⟩
  have hbW : Below w.heap.size w W := by subst hW; go_grown
  have hblk : W.heap[w.heap.size]? = some (.cells M 112 (0, 0)) := by subst hW; show (w.heap.push _)[w.heap.size]? = _; simp
  try rw [hW]
  clear hW
  go_loopw [7, 8] (fun r i wr => ∃ (j : Nat) (C : Array Value), j ≤ L ∧ i = .int .i64 ((j : Int) - 1) ∧ r = .int .u64 ((wval (l.drop j) % d : Nat) : Int) ∧ wr.heap[w.heap.size]? = some (.cells C 112 (0, 0)) ∧ C.size = L ∧ Hid (∀ i x, j ≤ i → (qd d l)[i]? = some x → C[i]? = some (.int .u32 (x : Nat))) ∧ Below w.heap.size w wr) (fun _ i _ => ((intOf i) + 1).toNat)
  case atStart =>
    refine ⟨L, M, Nat.le_refl _, rfl, ?_, hblk, HMS.out, fun i x h1 h2 => ?_, hbW⟩
    · rw [List.drop_of_length_le (by have := HL.out; omega)]; rfl
    · have := (List.getElem?_eq_some_iff.1 h2).1
      rw [qd_len, HL.out] at this
      omega
  case round =>
    clear hbW hblk
    obtain ⟨j, C, hj, rfl, rfl, hblk, hC, hq, hbw⟩ := hrel
    cases j with
    | zero =>
      rw [show (((0 : Nat) : Int) - 1) = -1 by omega]
      obtain ⟨R, hR⟩ : ∃ R, wval (l.drop 0) % d = R := ⟨_, rfl⟩
      have hRl : R < 4294967296 := by rw [← hR]; exact Nat.lt_trans (Nat.mod_lt _ hd0) hd
      rw [hR]
      have HRR := Lib.hid hR
      have hCl : C.toList = (qd d l).map fun x : Nat => Value.int .u32 x := by
        apply List.ext_getElem?
        intro i
        rw [List.getElem?_map]
        cases hx : (qd d l)[i]? with
        | none =>
          have h1 := List.getElem?_eq_none_iff.1 hx
          rw [qd_len, HL.out] at h1
          simp only [Option.map_none]
          exact List.getElem?_eq_none (by simp; omega)
        | some x => simpa using hq.out i x (Nat.zero_le _) hx
      have HWd : Wds (fun k => w.heap.size ≤ k) wr (.slice (some ⟨w.heap.size, 0, none⟩) L L) (qd d l) := by
        refine ⟨_, L, by rw [qd_len, HL.out], by rw [qd_len, HL.out]; exact Nat.le_refl _, (fun e => by cases e), fun _ => ⟨w.heap.size, 0, rfl, Nat.le_refl _, fun i x hi => ?_⟩⟩
        rw [Lib.cell_of_heap hblk, Nat.zero_add]
        exact hq.out i x (Nat.zero_le _) hi
      clear hR hq hCl
      go_wp2_with fail
      refine (btrim_any _ _ (qd d l) wr HWd (by rw [qd_len, HL.out]; exact hl)).mono ?_
      rintro e w1 ⟨⟨v, rfl, hv⟩, rfl⟩
      go_wp2_with fail
      refine bodyPost_ret (v := .tuple #[v, .int .u32 R]) (by simp [results, Tryd.results73, go_sem]) rfl ⟨⟨v, ?_, ?_⟩, hbw⟩
      · have := HRR.out
        rw [List.drop_zero] at this
        rw [this]
      · rw [trim_words (qd_ws d hd0 hd l HW.out), qd_val d hd0] at hv
        exact hv
    | succ j =>
      rw [show (((j + 1 : Nat) : Int) - 1) = (j : Int) by omega]
      obtain ⟨x, hx⟩ : ∃ y, l[j]? = some y := ⟨_, List.getElem?_eq_getElem (by have := HL.out; omega)⟩
      have hxl : x < 4294967296 := HW.out x (mem_of_at hx)
      have hcell : wr.cell? ⟨b, off + j, none⟩ = some (.int .u32 (x : Nat)) := cell_keep (HR.out j x hx) hbw
      obtain ⟨R, hR⟩ : ∃ R, wval (l.drop (j + 1)) % d = R := ⟨_, rfl⟩
      have hRl : R < 4294967296 := by rw [← hR]; exact Nat.lt_trans (Nat.mod_lt _ hd0) hd
      have hstep := rem_step d l j x hx
      have hqat := qd_at d l j x hx
      rw [hR] at hstep hqat ⊢
      have hRd : R < d := by rw [← hR]; exact Nat.mod_lt _ hd0
      have hor := bits_or (R * 4294967296) x (by omega) (by omega)
      rw [or_add R x hxl, Int.natCast_mul] at hor
      obtain ⟨N, hN⟩ : ∃ N, R * 4294967296 + x = N := ⟨_, rfl⟩
      have hNq : N / d < 4294967296 := by
        rw [Nat.div_lt_iff_lt_mul hd0, ← hN]
        have h3 := Nat.mul_le_mul_right 4294967296 (show R + 1 ≤ d from hRd)
        rw [Nat.add_mul] at h3
        omega
      have hN64 : N < 18446744073709551616 := by omega
      rw [hN] at hstep hqat hor
      have hor' : bits BinOp.or IntKind.u64 ((R : Int) * 4294967296) (x : Int) = (N : Int) := hor
      have hN0 : (0 : Int) ≤ (N : Int) := Int.natCast_nonneg _
      have hN1 : (N : Int) ≤ 18446744073709551615 := by omega
      have hd1 : (0 : Int) < (d : Int) := by omega
      have HST := Lib.hid hstep
      have HQA := Lib.hid hqat
      obtain ⟨cv, hc1⟩ : ∃ cv, wr.cell? ⟨w.heap.size, j, none⟩ = some cv := ⟨_, by rw [Lib.cell_of_heap hblk]; exact Array.getElem?_eq_getElem (by omega)⟩
      have hc2 : wr.frozen? ⟨w.heap.size, j, none⟩ = false := Lib.frozen_of_heap hblk j
      have hq1 : (N : Int) / (d : Int) ≤ 4294967295 := by
        have h : ((N / d : Nat) : Int) ≤ 4294967295 := by omega
        rw [Int.natCast_ediv] at h
        exact h
      have hq0 : 0 ≤ (N : Int) / (d : Int) := by
        have h : 0 ≤ ((N / d : Nat) : Int) := Int.natCast_nonneg _
        rw [Int.natCast_ediv] at h
        exact h
      have HB := Lib.hid hblk
      have HC := Lib.hid hC
      clear hstep hqat hR hN hx hC hblk hor
      go_wp2_with fail
      go_roundw
      case rel =>
        refine ⟨j, C.setIfInBounds j (.int .u32 ((N : Int) / (d : Int))), by omega, rfl, ?_, block_set HB.out j _, by rw [Array.size_setIfInBounds]; exact HC.out, fun i y h1 h2 => ?_, hbw.setCell (p := ⟨w.heap.size, j, none⟩) (Nat.le_refl _) _⟩
        · rw [HST.out, Int.natCast_emod]
        · rcases Nat.eq_or_lt_of_le h1 with e | h3
          · subst e
            rw [HQA.out] at h2
            obtain rfl := Option.some.inj h2
            rw [Array.getElem?_setIfInBounds_self_of_lt (by have := HC.out; omega), Int.natCast_ediv]
          · rw [Array.getElem?_setIfInBounds_ne (by omega)]
            exact hq.out i y (by omega) h2
      case measure => simp [intOf] <;> omega
end Go.Proofs.YtmklodgcbldndaaDoor
namespace Go.Proofs.YtmklodgcbldndaaDoor
open Go.RowKit Go.Proofs

theorem wval_take_succ (l : List Nat) (i : Nat) : wval (l.take (i + 1)) = wval (l.take i) + 4294967296 ^ i * l.getD i 0 := by
  by_cases h : i < l.length
  · have e : l.take (i + 1) = l.take i ++ [l[i]] := by rw [List.take_add_one, List.getElem?_eq_getElem h]; rfl
    rw [e, wval_app, List.length_take, Nat.min_eq_left (by omega)]
    have : l.getD i 0 = l[i] := by simp [List.getD, List.getElem?_eq_getElem h]
    rw [this]
    simp [wval]
  · have : l.getD i 0 = 0 := by simp [List.getD, List.getElem?_eq_none (Nat.le_of_not_lt h)]
    rw [this, List.take_of_length_le (by omega), List.take_of_length_le (by omega)]
    omega
theorem ws_getD {l : List Nat} (h : Ws l) (i : Nat) : l.getD i 0 < 4294967296 := by
  by_cases hi : i < l.length
  · have : l.getD i 0 = l[i] := by simp [List.getD, List.getElem?_eq_getElem hi]
    rw [this]
    exact h _ (List.getElem_mem hi)
  · have : l.getD i 0 = 0 := by simp [List.getD, List.getElem?_eq_none (Nat.le_of_not_lt hi)]
    omega
theorem getD_at {l : List Nat} {i x : Nat} (h : l[i]? = some x) : l.getD i 0 = x := by simp [List.getD, h]
/-- One step of adding. -/
theorem add_word {S a b : List Nat} {i c t : Nat} (hl : S.length = i) (h : wval S + c * 4294967296 ^ i = wval (a.take i) + wval (b.take i)) (ht : t = c + a.getD i 0 + b.getD i 0) :
    wval (S ++ [t % 4294967296]) + t / 4294967296 * 4294967296 ^ (i + 1) = wval (a.take (i + 1)) + wval (b.take (i + 1)) := by
  rw [wval_app, wval_take_succ, wval_take_succ, hl, Nat.pow_succ]
  have e : wval [t % 4294967296] = t % 4294967296 := by simp [wval]
  rw [e]
  generalize 4294967296 ^ i = B at *
  have h1 : 4294967296 * (t / 4294967296) + t % 4294967296 = t := Nat.div_add_mod t 4294967296
  have h2 : B * (t % 4294967296) + t / 4294967296 * (B * 4294967296) = B * t := by
    conv => rhs; rw [← h1]
    rw [Nat.mul_add, Nat.mul_comm (t / 4294967296), Nat.mul_assoc]
    omega
  rw [Nat.add_assoc, h2, ht, Nat.mul_add, Nat.mul_add, Nat.mul_comm B c]
  omega
theorem wval_set : ∀ (R : List Nat) (k x y : Nat), R[k]? = some y → wval (R.set k x) + 4294967296 ^ k * y = wval R + 4294967296 ^ k * x := by
  intro R
  induction R with
  | nil => intro k x y h; simp at h
  | cons d R ih =>
    intro k x y h
    cases k with
    | zero =>
      simp at h
      subst h
      simp [wval]
      omega
    | succ k =>
      simp only [List.getElem?_cons_succ] at h
      have := ih k x y h
      simp only [List.set_cons_succ, wval, Nat.pow_succ]
      have e1 : 4294967296 ^ k * 4294967296 * y = 4294967296 * (4294967296 ^ k * y) := by rw [Nat.mul_comm (4294967296 ^ k), Nat.mul_assoc]
      have e2 : 4294967296 ^ k * 4294967296 * x = 4294967296 * (4294967296 ^ k * x) := by rw [Nat.mul_comm (4294967296 ^ k), Nat.mul_assoc]
      rw [e1, e2]
      omega
theorem ws_set {R : List Nat} (h : Ws R) (k : Nat) {x : Nat} (hx : x < 4294967296) : Ws (R.set k x) := fun d hd => by
  rcases List.mem_or_eq_of_mem_set hd with h1 | h1
  · exact h d h1
  · omega
theorem ws_snoc {R : List Nat} (h : Ws R) {x : Nat} (hx : x < 4294967296) : Ws (R ++ [x]) := fun d hd => by
  rcases List.mem_append.1 hd with h1 | h1
  · exact h d h1
  · simp at h1; omega
/-- One step of multiplying by a word. -/
theorem mul_word {R b : List Nat} {V i j c x t y : Nat} (h : wval R + c * 4294967296 ^ (i + j) = V + x * wval (b.take j) * 4294967296 ^ i) (hy : R[i + j]? = some y) (ht : t = c + x * b.getD j 0 + y) :
    wval (R.set (i + j) (t % 4294967296)) + t / 4294967296 * 4294967296 ^ (i + (j + 1)) = V + x * wval (b.take (j + 1)) * 4294967296 ^ i := by
  have hs := wval_set R (i + j) (t % 4294967296) y hy
  rw [wval_take_succ]
  have e : 4294967296 ^ (i + (j + 1)) = 4294967296 ^ (i + j) * 4294967296 := by rw [← Nat.add_assoc, Nat.pow_succ]
  rw [e, Nat.mul_add, Nat.add_mul]
  have e2 : x * (4294967296 ^ j * b.getD j 0) * 4294967296 ^ i = 4294967296 ^ (i + j) * (x * b.getD j 0) := by
    rw [Nat.pow_add]
    simp only [Nat.mul_comm, Nat.mul_left_comm, Nat.mul_assoc]
  rw [e2]
  generalize 4294967296 ^ (i + j) = B at *
  have h1 : 4294967296 * (t / 4294967296) + t % 4294967296 = t := Nat.div_add_mod t 4294967296
  have h2 : B * (t % 4294967296) + t / 4294967296 * (B * 4294967296) = B * t := by
    conv => rhs; rw [← h1]
    rw [Nat.mul_add, Nat.mul_comm (t / 4294967296), Nat.mul_assoc]
    omega
  have h3 : B * t = c * B + B * (x * b.getD j 0) + B * y := by rw [ht, Nat.mul_add, Nat.mul_add, Nat.mul_comm B c]
  omega
theorem mul_last {R a b : List Nat} {i c : Nat} (h : wval R + c * 4294967296 ^ (i + b.length) = wval (a.take i) * wval b + a.getD i 0 * wval (b.take b.length) * 4294967296 ^ i) (hy : R[i + b.length]? = some 0) :
    wval (R.set (i + b.length) c) = wval (a.take (i + 1)) * wval b := by
  have hs := wval_set R (i + b.length) c 0 hy
  rw [List.take_length] at h
  rw [wval_take_succ, Nat.add_mul]
  have e2 : 4294967296 ^ i * a.getD i 0 * wval b = a.getD i 0 * wval b * 4294967296 ^ i := by simp only [Nat.mul_comm, Nat.mul_left_comm, Nat.mul_assoc]
  rw [e2, Nat.mul_comm c] at *
  omega
/-- How many bits a number has. -/
def bits1 (x : Nat) : Nat := if h : x = 0 then 0 else bits1 (x / 2) + 1
termination_by x
decreasing_by omega
theorem bits1_lt (k : Nat) : ∀ (x : Nat), x < 2 ^ k ↔ bits1 x ≤ k := by
  induction k with
  | zero =>
    intro x
    constructor
    · intro h
      have : x = 0 := by simpa using h
      subst this
      rw [bits1]
      simp
    · intro h
      rw [bits1] at h
      split at h
      · simp [*]
      · omega
  | succ k ih =>
    intro x
    by_cases h0 : x = 0
    · subst h0
      constructor
      · intro _
        rw [bits1]
        simp
      · intro _
        exact Nat.two_pow_pos _
    · rw [bits1, dif_neg h0, Nat.pow_succ]
      have := ih (x / 2)
      omega
/-- The bits of the words. -/
def bitsW (l : List Nat) : Nat := match l.getLast? with
  | none => 0
  | some t => (l.length - 1) * 32 + bits1 t
theorem bitsW_lt {l : List Nat} (h1 : Ws l) (h2 : Trimmed l) (k : Nat) : wval l < 2 ^ k ↔ bitsW l ≤ k := by
  cases hl : l.getLast? with
  | none =>
    have : l = [] := List.getLast?_eq_none_iff.1 hl
    subst this
    simp [bitsW, wval, Nat.two_pow_pos]
  | some t =>
    have ht : t ≠ 0 := h2 t hl
    obtain ⟨r, rfl⟩ : ∃ r, l = r ++ [t] := by
      obtain ⟨ne, e⟩ := List.getLast?_eq_some_iff.1 hl
      exact ⟨_, e⟩
    have hr : Ws r := fun d hd => h1 d (by simp [hd])
    have hb : bitsW (r ++ [t]) = r.length * 32 + bits1 t := by simp [bitsW]
    rw [hb, wval_app]
    have hw := wval_lt hr
    have ev : wval [t] = t := by simp [wval]
    rw [ev]
    have ep : (4294967296 : Nat) ^ r.length = 2 ^ (r.length * 32) := by
      rw [Nat.mul_comm, Nat.pow_mul]
    rw [ep] at hw ⊢
    by_cases hk : r.length * 32 ≤ k
    · obtain ⟨m, rfl⟩ : ∃ m, k = r.length * 32 + m := ⟨k - r.length * 32, by omega⟩
      rw [Nat.pow_add]
      generalize 2 ^ (r.length * 32) = B at *
      have hm := bits1_lt m t
      constructor
      · intro h
        have : t < 2 ^ m := by
          rcases Nat.lt_or_ge t (2 ^ m) with h3 | h3
          · exact h3
          · have := Nat.mul_le_mul_left B h3
            omega
        have := hm.1 this
        omega
      · intro h
        have : t < 2 ^ m := hm.2 (by omega)
        have h4 := Nat.mul_le_mul_left B (show t + 1 ≤ 2 ^ m from this)
        rw [Nat.mul_add] at h4
        omega
    · have hb1 : 1 ≤ bits1 t := by
        rw [bits1, dif_neg ht]
        omega
      constructor
      · intro h
        have h5 : 2 ^ k ≤ 2 ^ (r.length * 32) := Nat.pow_le_pow_right (by decide) (by omega)
        have h6 : 2 ^ (r.length * 32) ≤ 2 ^ (r.length * 32) * t := Nat.le_mul_of_pos_right _ (by omega)
        omega
      · intro h
        omega
end Go.Proofs.YtmklodgcbldndaaDoor
