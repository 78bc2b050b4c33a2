/-
  Small things that every text of this seat uses: utf8's tables as a hypothesis that outlives new memory, chains of 'Below', strings as lists of bytes.
  Rows of memory that a call owns: one bundle for a slice type's closed facts (RowType), and append onto an owned row stated with 'Below' (everything that was there before the call stays).
  Blocks of memory, rows of texts, boxes of one cell: what all walks share.
  Types (api.Type) as trees, and how they lie in memory.
  What is wrong with a value, in plain words.
  Events over a wire, in plain words: groups of seven bits, what is written, what is read.
  Numbers in groups of seven bits: the program's writer and the reference's.
  Names: exprs.IsName, types.IsVar and the reference's small, IsName, IsVar answer 'isName' and 'isVar'.
-/
import Derived.Test.YtpidjanngbaiiaaGreatDoorShelf
import Derived.WalkKit
import Derived.WalkSpells
import Derived.WalkLawsBesides
import Derived.Handy
import Derived.BigQuiet
import Derived.Outline
import Derived.Lib.ValidU
import Derived.Lib.Hide
import Derived.Deep.Draws
import Derived.Maps.AppendAt
import Derived.Deep.AppendLies
import Derived.Lib.SlicesS
import Derived.Laws.AppendOwnNone
import Derived.Below
import Derived.Deep.RegionHeld
import Derived.Shelf.Strings.SlTrimAscii
namespace Go.Proofs.YtpidjanngbaiiaaGreatDoor
open Go.RowKit Go.Proofs
theorem zA {α : Type _} {xs : List α} {i : Nat} (h : i < xs.toArray.size) : xs.toArray[i] = xs[i]'(by simpa using h) := List.getElem_toArray h
theorem zB {α : Type _} {a : α} {l : List α} {i : Nat} (h : i + 1 < (a :: l).length) : (a :: l)[i + 1] = l[i]'(Nat.lt_of_succ_lt_succ h) := List.getElem_cons_succ ..
theorem zC {α : Type _} {a : α} {l : List α} (h : 0 < (a :: l).length) : (a :: l)[0] = a := List.getElem_cons_zero ..
theorem zD {α : Type _} (l : List α) (i : Nat) (a : α) : l.toArray.setIfInBounds i a = (l.set i a).toArray := List.setIfInBounds_toArray ..
theorem zE {α : Type _} {x : α} {xs : List α} {a : α} : (x :: xs).set 0 a = a :: xs := rfl
theorem zF {α : Type _} {x : α} {xs : List α} {i : Nat} {a : α} : (x :: xs).set (i + 1) a = x :: xs.set i a := rfl
theorem zI {α : Sort _} {c : Prop} {a b : α} [Decidable c] (h : ¬ c := by first | omega | (simp; omega) | (simp only [List.length_append, List.length_cons, List.length_nil]; omega)) : (if c then a else b) = b := if_neg h

def Tabs (w : World) : Prop := Lib.Utf8Tabs 3 4 w
theorem Tabs.below {w w' : World} (h : Tabs w) (hb : Below w.heap.size w w') : Tabs w' := Utf8Tabs_below h hb
theorem Tabs.drew {w : World} (h : Tabs w) : Tabs w.drew := h
theorem Tabs.drewN {w : World} (h : Tabs w) (n : Nat) : Tabs (w.drewN n) := h

theorem step {w w1 w2 : World} (h1 : Below w.heap.size w w1) {B : Nat} (h2 : Below B w1 w2) (hB : w.heap.size ≤ B) : Below w.heap.size w w2 := h1.trans (h2.mono hB)
theorem chain {w w0 w1 : World} (h : Below w.heap.size w w0) (h1 : Below w0.heap.size w0 w1) : Below w.heap.size w w1 := h.trans (h1.mono h.size)
theorem ret_bool {a b : Bool} (h : a = b) : Ending.returned (.bool a) = .returned (.bool b) := by rw [h]
theorem str_data (s : ByteArray) : s = ⟨s.data.toList.toArray⟩ := (Lib.mk_data s).symm
theorem ext_mid (t : List UInt8) (a b : Nat) : (⟨t.toArray⟩ : ByteArray).extract a b = ⟨((t.drop a).take (b - a)).toArray⟩ := Lib.extract_eq ⟨t.toArray⟩ a b
theorem ext_from (t : List UInt8) (a : Nat) : (⟨t.toArray⟩ : ByteArray).extract a t.length = ⟨(t.drop a).toArray⟩ := by
 rw [ext_mid, List.take_of_length_le (by rw [List.length_drop]; omega)]
theorem ext_to (t : List UInt8) (b : Nat) : (⟨t.toArray⟩ : ByteArray).extract 0 b = ⟨(t.take b).toArray⟩ := by
 rw [ext_mid]; simp
attribute [go_sem] ext_from ext_to
theorem bcell {B : Nat} {W w1 : World} (hb : Below B W w1) : (∀ b o, b < B → w1.cell? ⟨b, o, none⟩ = W.cell? ⟨b, o, none⟩) ∧ (∀ b o, b < B → w1.frozen? ⟨b, o, none⟩ = W.frozen? ⟨b, o, none⟩) ∧ W.heap.size ≤ w1.heap.size :=
 ⟨fun b o h => hb.cell (p := ⟨b, o, none⟩) h, fun b o h => hb.frozen (p := ⟨b, o, none⟩) h, hb.size⟩
theorem own_keep {w w' : World} {base : Nat} {e : TypeId} {size n : Nat} {v : Value} {xs : List Value} (h : w.ownsRow base e size v n xs) {B : Nat} (hb : Below B w w') (hB : w.heap.size ≤ B) : w'.ownsRow base e size v n xs :=
 h.kept (row := Option.none) ⟨hb.os, hb.tape, hb.output, hb.size, fun q hq _ => hb.block q (by omega)⟩ (by cases v.ownBlock <;> simp)
end Go.Proofs.YtpidjanngbaiiaaGreatDoor
namespace Go.Proofs.YtpidjanngbaiiaaGreatDoor
open Go.RowKit Go.Proofs

structure RowType (P : Program) (T E : TypeId) (size bytes : Nat) : Prop where
 ht : P.underlying T = some (.slice E)
 ex : ∃ (i : TypeInfo) (z : Value), P.info? E = some i ∧ i.zero = some z ∧ i.size = size ∧ i.bytes = bytes ∧ z.cells.size = size
 pos : 0 < size

theorem RowType.mk' {P : Program} {T E : TypeId} {size bytes : Nat} {z : Value} (ht : P.underlying T = some (.slice E)) (h : (P.info? E).map (fun i => (i.zero, i.size, i.bytes)) = some (some z, size, bytes)) (hz : z.cells.size = size) (hp : 0 < size) : RowType P T E size bytes := by
 obtain ⟨i, h1, h2, h3, h4⟩ := info_parts h
 exact ⟨ht, ⟨i, z, h1, h2, h3, h4, hz⟩, hp⟩

section
variable {P : Program} {ops : Array Oper} {rest : List Oper} {o : Oper} {a : Act} {Q : Exit → Act → World → Prop} {w : World}

theorem wpList_app {T E : TypeId} {size bytes : Nat} (R : RowType P T E size bytes) (hgd : o.guard = none) (s x : Operand)
  (ho : o.op = .call { callee := .builtin .append, args := #[s, x], argTypes := #[T, T] })
  (base : Nat) (v : Value) (n : Nat) (xs : List Value) (hs : a.eval s = v) (hown : w.ownsRow base E size v n xs)
  (ad : Addr) (m c : Nat) (news : List Value) (hx : a.eval x = .slice (some ad) m c) (hl : news.length = m * size) (hnews : ∀ j u, news[j]? = some u → w.cell? (ad.add j) = some u) (h1 : ∀ u ∈ news, u.oneCell' = true)
  (h63 : n + m ≤ maxLen) (hbytes : (n + m) * bytes ≤ 140737488355328) (hbase : base ≤ w.heap.size)
  (h : ∀ v' w', w'.ownsRow base E size v' (n + m) (xs ++ news) → w.grownBy w' v.ownBlock → (v'.ownBlock = v.ownBlock ∨ v'.ownBlock = some w.heap.size) → Below base w w' → wpList P ops Q rest (a.put o.dst v') w') : wpList P ops Q (o :: rest) a w := by
 obtain ⟨i, z, hi, hz, hsize, hby, hzs⟩ := R.ex
 refine wpList_append_own_at w hgd s x T ho base E i z size bytes R.ht hi hz hsize hby hzs R.pos v n xs hs hown ad m c news hx hl hnews h1 h63 hbytes hbase ?_
 intro v' w' h2 h3 _ h5
 refine h v' w' h2 h3 h5 ?_
 exact (Below.refl _ _).grown h3 hbase (fun k hk => (hown.lt k hk).1)

theorem wpList_app1 {T E : TypeId} {bytes : Nat} (R : RowType P T E 1 bytes) (w : World) (u : Value) (hgd : o.guard = none) (s x : Operand)
  (ho : o.op = .call { callee := .builtin .append, args := #[s, x], argTypes := #[T, T] })
  (base : Nat) (v : Value) (n : Nat) (xs : List Value) (hs : a.eval s = v) (hown : w.ownsRow base E 1 v n xs)
  (hx : a.eval x = .slice (some ⟨w.heap.size, 0, none⟩) 1 1) (h1 : u.oneCell' = true)
  (hbytes : (n + 1) * bytes ≤ 140737488355328) (h63 : n + 1 ≤ 4611686018427387904) (hbase : base ≤ w.heap.size)
  (h : ∀ v' w', w'.ownsRow base E 1 v' (n + 1) (xs ++ [u]) → (w.alloc (.cells #[u] E)).grownBy w' v.ownBlock → (v'.ownBlock = v.ownBlock ∨ v'.ownBlock = some (w.heap.size + 1)) → Below base w w' → wpList P ops Q rest (a.put o.dst v') w') : wpList P ops Q (o :: rest) a (w.alloc (.cells #[u] E)) := by
 refine wpList_app R hgd s x ho base v n xs hs (hown.alloc _) ⟨w.heap.size, 0, none⟩ 1 1 [u] hx rfl (cell_one_new _ _ _) (by simpa using h1) (by unfold maxLen; omega) hbytes (by simp; omega) ?_
 intro v' w' h2 h3 h4 h5
 exact h v' w' h2 h3 (by simpa using h4) (((Below.refl _ _).alloc hbase _).trans h5)
end

theorem rt_runes : RowType Tryz.prog 119 21 1 4 := .mk' (z := .int .i32 0) Tryz.underlying119 (by kernel_rfl) rfl (by decide)
theorem rt_strs : RowType Tryz.prog 27 9 1 16 := .mk' (z := .string ⟨#[]⟩) Tryz.underlying27 (by kernel_rfl) rfl (by decide)
theorem rt_bytes : RowType Tryz.prog 62 5 1 1 := .mk' (z := .int .u8 0) Tryz.underlying62 (by kernel_rfl) rfl (by decide)
end Go.Proofs.YtpidjanngbaiiaaGreatDoor
namespace Go.Proofs.YtpidjanngbaiiaaGreatDoor
open Go.RowKit Go.Proofs
set_option maxRecDepth 100000

abbrev Str := List UInt8
def StrRow (w : World) (b off : Nat) (l : List Str) : Prop := ∀ i s, l[i]? = some s → w.cell? ⟨b, off + i, none⟩ = some (.string ⟨s.toArray⟩)
def IsStrs (w : World) (v : Value) (l : List Str) : Prop := ∃ A cap, v = .slice A l.length cap ∧ l.length ≤ cap ∧ (0 < l.length → ∃ b off, A = some ⟨b, off, none⟩ ∧ StrRow w b off l)
theorem cell_lt {w : World} {b o : Nat} {v : Value} (h : w.cell? ⟨b, o, none⟩ = some v) : b < w.heap.size := by
 unfold World.cell? at h
 rcases Nat.lt_or_ge b w.heap.size with hl | hl
 ·exact hl
 ·rw [Array.getElem?_eq_none hl] at h; cases h
theorem cell_keep {w w' : World} {b o : Nat} {v : Value} (h : w.cell? ⟨b, o, none⟩ = some v) (hb : Below w.heap.size w w') : w'.cell? ⟨b, o, none⟩ = some v :=
 (hb.cell (p := ⟨b, o, none⟩) (cell_lt h)).trans h
theorem StrRow.keep {w w' : World} {b off : Nat} {l : List Str} (h : StrRow w b off l) (hb : Below w.heap.size w w') : StrRow w' b off l := fun i s hi => cell_keep (h i s hi) hb
theorem IsStrs.keep {w w' : World} {v : Value} {l : List Str} (h : IsStrs w v l) (hb : Below w.heap.size w w') : IsStrs w' v l := by
 obtain ⟨A, cap, h1, h2, h3⟩ := h
 exact ⟨A, cap, h1, h2, fun h0 => let ⟨b, off, e, hr⟩ := h3 h0; ⟨b, off, e, hr.keep hb⟩⟩
section
variable {P : Program} {ops : Array Oper} {rest : List Oper} {o : Oper} {a : Act} {Q : Exit → Act → World → Prop} {w : World}
theorem wpList_app_any {T E : TypeId} {size bytes : Nat} (R : RowType P T E size bytes) (hgd : o.guard = none) (s x : Operand)
  (ho : o.op = .call { callee := .builtin .append, args := #[s, x], argTypes := #[T, T] })
  (base : Nat) (v : Value) (n : Nat) (xs : List Value) (hs : a.eval s = v) (hown : w.ownsRow base E size v n xs)
  (A : Option Addr) (m c : Nat) (hx : a.eval x = .slice A m c) (ys : List Value) (hl : ys.length = m * size) (hA : A = none → m = 0 ∧ c = 0) (hsrc : ∀ ad, A = some ad → ∀ j u, ys[j]? = some u → w.cell? (ad.add j) = some u) (h1 : ∀ u ∈ ys, u.oneCell' = true)
  (h63 : n + m ≤ maxLen) (hbytes : (n + m) * bytes ≤ 140737488355328) (hbase : base ≤ w.heap.size)
  (h : ∀ v' w', w'.ownsRow base E size v' (n + m) (xs ++ ys) → Below base w w' → wpList P ops Q rest (a.put o.dst v') w') : wpList P ops Q (o :: rest) a w := by
 cases A with
 | none =>
  obtain ⟨rfl, rfl⟩ := hA rfl
  obtain ⟨i, z, hi, hz, hsize, hby, hzs⟩ := R.ex
  refine wpList_append_own_none hgd s x T ho base E i size R.ht hi v n xs hs hown hx ?_
  have : ys = [] := List.eq_nil_of_length_eq_zero (by omega)
  subst this
  exact h v w (by simpa using hown) (Below.refl _ _)
 | some ad =>
  exact wpList_app R hgd s x ho base v n xs hs hown ad m c ys hx hl (hsrc ad rfl) h1 h63 hbytes hbase fun v' w' k1 _ _ k4 => h v' w' k1 k4
end
theorem IsStrs.one {w : World} {v : Value} {l : List Str} (h : IsStrs w v l) : v.oneCell' = true := by obtain ⟨A, cap, rfl, _⟩ := h; rfl
theorem own_form {w : World} {base : Nat} {E : TypeId} {size n : Nat} {v : Value} {xs : List Value} (h : w.ownsRow base E size v n xs) : ∃ A cap, v = .slice A n cap := by
 rcases h.2 with ⟨rfl, h0⟩ | ⟨g, cap, cur, rfl, _⟩
 ·rw [h0]; exact ⟨_, _, rfl⟩
 ·exact ⟨_, _, rfl⟩
theorem mem_of_at {α : Type} {l : List α} {i : Nat} {a : α} (h : l[i]? = some a) : a ∈ l := List.mem_of_getElem? h
abbrev Blocks := Nat → Prop
def StrsD (D : Blocks) (w : World) (v : Value) (l : List Str) : Prop := ∃ A cap, v = .slice A l.length cap ∧ l.length ≤ cap ∧ (0 < l.length → ∃ b off, A = some ⟨b, off, none⟩ ∧ D b ∧ StrRow w b off l)
def Same (D : Blocks) (w w' : World) : Prop := ∀ b, D b → b < w.heap.size → w'.heap[b]? = w.heap[b]?
theorem Same.cell {D : Blocks} {w w' : World} (h : Same D w w') {b o : Nat} (hD : D b) {v : Value} (hc : w.cell? ⟨b, o, none⟩ = some v) : w'.cell? ⟨b, o, none⟩ = some v := by
 have hl := cell_lt hc
 unfold World.cell? at hc ⊢
 rw [h b hD hl]
 exact hc
theorem Same.below {D : Blocks} {w w' : World} (hb : Below w.heap.size w w') : Same D w w' := fun b _ hl => hb.block b hl
theorem Same.grown {D : Blocks} {w w' : World} {row : Option Nat} (hg : w.grownBy w' row) (h : ∀ b, D b → some b ≠ row) : Same D w w' := fun b hD hl => hg.block b hl (h b hD)
theorem Same.set {D : Blocks} {w : World} {p : Addr} {u : Value} (h : ¬ D p.block) : Same D w (w.setCell p u) := by
 intro b hD hl
 have hne : p.block ≠ b := fun e => h (e ▸ hD)
 unfold World.setCell
 simp only
 rw [Array.getElem?_modify, if_neg hne]
theorem Same.trans {D : Blocks} {a b c : World} (h1 : Same D a b) (hs : a.heap.size ≤ b.heap.size) (h2 : Same D b c) : Same D a c := fun k hD hl => (h2 k hD (by omega)).trans (h1 k hD hl)
theorem StrsD.keep {D D' : Blocks} {w w' : World} {v : Value} {l : List Str} (h : StrsD D w v l) (hs : Same D w w') (hD : ∀ b, D b → b < w.heap.size → D' b) : StrsD D' w' v l := by
 obtain ⟨A, cap, h1, h2, h3⟩ := h
 refine ⟨A, cap, h1, h2, fun h0 => ?_⟩
 obtain ⟨b, off, e, hd, hr⟩ := h3 h0
 have hl : b < w.heap.size := by
  obtain ⟨s, hs⟩ : ∃ s, l[0]? = some s := ⟨_, List.getElem?_eq_getElem h0⟩
  exact cell_lt (hr 0 s hs)
 exact ⟨b, off, e, hD b hd hl, fun i s hi => hs.cell hd (hr i s hi)⟩
theorem StrsD.is {D : Blocks} {w : World} {v : Value} {l : List Str} (h : StrsD D w v l) : IsStrs w v l := by
 obtain ⟨A, cap, h1, h2, h3⟩ := h
 exact ⟨A, cap, h1, h2, fun h0 => let ⟨b, off, e, _, hr⟩ := h3 h0; ⟨b, off, e, hr⟩⟩
theorem IsStrs.toD {w : World} {v : Value} {l : List Str} (h : IsStrs w v l) : StrsD (· < w.heap.size) w v l := by
 obtain ⟨A, cap, h1, h2, h3⟩ := h
 refine ⟨A, cap, h1, h2, fun h0 => ?_⟩
 obtain ⟨b, off, e, hr⟩ := h3 h0
 obtain ⟨s, hs⟩ : ∃ s, l[0]? = some s := ⟨_, List.getElem?_eq_getElem h0⟩
 exact ⟨b, off, e, cell_lt (hr 0 s hs), hr⟩
theorem own_set {w : World} {base : Nat} {e : TypeId} {size n : Nat} {v : Value} {xs : List Value} (h : w.ownsRow base e size v n xs) {p : Addr} (hp : p.block < base) (u : Value) : (w.setCell p u).ownsRow base e size v n xs := by
 refine h.kept (row := some p.block) ⟨rfl, rfl, rfl, by rw [World.size_setCell]; exact Nat.le_refl _, fun b hl hne => ?_⟩ ?_
 ·exact (Same.set (D := fun k => k ≠ p.block) (w := w) (p := p) (u := u) (fun h => h rfl)) b (fun e => hne (by rw [e])) hl
 ·rcases h.2 with ⟨rfl, _⟩ | ⟨g, cap, cur, rfl, hg, _⟩
  ·exact Or.inl rfl
  ·refine Or.inr fun e => ?_
   have e' : g = p.block := Option.some.inj e
   omega
structure Names (w : World) (v : Value) (l : List Str) : Prop where
 s : IsStrs w v l
 z : ∀ n c, v = .slice none n c → c = 0
theorem Names.keep {w w' : World} {v : Value} {l : List Str} (h : Names w v l) (hb : Below w.heap.size w w') : Names w' v l := ⟨h.s.keep hb, h.z⟩
theorem Names.one {w : World} {v : Value} {l : List Str} (h : Names w v l) : v.oneCell' = true := h.s.one
theorem Names.none (w : World) : Names w (.slice none 0 0) [] := ⟨⟨Option.none, 0, rfl, Nat.le_refl _, fun h => by simp at h⟩, fun n c e => by injection e with _ _ e; exact e.symm⟩
abbrev All : Blocks := fun _ => True
theorem Same.refl (D : Blocks) (w : World) : Same D w w := fun _ _ _ => rfl
theorem StrsD.below {D : Blocks} {w w' : World} {v : Value} {t : List Str} (h : StrsD D w v t) (hb : Below w.heap.size w w') : StrsD D w' v t := h.keep (Same.below hb) fun _ h _ => h
theorem StrsD.one {D : Blocks} {w : World} {v : Value} {l : List Str} (h : StrsD D w v l) : v.oneCell' = true := h.is.one
theorem cell_ne {b : Nat} {i j : Nat} {w : World} {u : Value} (h : i ≠ j) : (w.setCell ⟨b, i, none⟩ u).cell? ⟨b, j, none⟩ = w.cell? ⟨b, j, none⟩ := World.cell?_setCell_other _ _ _ _ (fun e => h (by injection e))
theorem cell_eq {b : Nat} {i : Nat} {w : World} {u x : Value} (h : w.cell? ⟨b, i, none⟩ = some x) : (w.setCell ⟨b, i, none⟩ u).cell? ⟨b, i, none⟩ = some u := World.cell?_setCell_same' _ _ _ (by rw [h]; rfl)
theorem no_strs' (D : Blocks) (w : World) : StrsD D w (.slice none 0 0) [] := ⟨none, 0, rfl, Nat.le_refl _, fun h => by simp at h⟩
theorem StrsD.any {w : World} {v : Value} {l : List Str} (h : IsStrs w v l) : StrsD All w v l := h.toD.keep (Same.refl _ _) fun _ _ _ => trivial
theorem byte_at' {l : Str} {k : Nat} {b : UInt8} (h : l[k]? = some b) (hk : k < (⟨l.toArray⟩ : ByteArray).size) : (⟨l.toArray⟩ : ByteArray)[k]'hk = b := by
 have : (⟨l.toArray⟩ : ByteArray)[k]'hk = l[k]'(by simpa [ByteArray.size] using hk) := rfl
 rw [this]
 exact (List.getElem?_eq_some_iff.1 h).2
theorem ret_bool' {a b : Bool} (h : a = b) : Ending.returned (.bool a) = .returned (.bool b) := by rw [h]
theorem mk_inj {a b : Str} : ((⟨a.toArray⟩ : ByteArray) = ⟨b.toArray⟩) ↔ a = b := by
 constructor
 ·intro h
  have := congrArg (fun x : ByteArray => x.data.toList) h
  simpa using this
 ·rintro rfl; rfl
theorem grown_set (w : World) (p : Nat) (u : Value) : w.grownBy (w.setCell ⟨p, 0, none⟩ u) (some p) :=
 ⟨rfl, rfl, rfl, by rw [World.size_setCell]; exact Nat.le_refl _, fun b _ h => Below.heap_setCell w _ u b (fun e => h (by rw [e]))⟩
theorem grown_below {w w' : World} (h : Below w.heap.size w w') (row : Option Nat) : w.grownBy w' row := ⟨h.os, h.tape, h.output, h.size, fun b hl _ => h.block b hl⟩
theorem same_p {w w' : World} {p : Nat} (h : w.grownBy w' (some p)) : Same (· ≠ p) w w' := Same.grown h (fun b hb e => hb (by injection e))
structure Left (w : World) (p : Nat) (left : Int) : Prop where
 c : w.cell? ⟨p, 0, none⟩ = some (.int .i64 left)
 f : w.frozen? ⟨p, 0, none⟩ = false
theorem Left.lt {w : World} {p : Nat} {left : Int} (h : Left w p left) : p < w.heap.size := cell_lt h.c
theorem Left.keep {w w' : World} {p : Nat} {left : Int} (h : Left w p left) (hb : Below w.heap.size w w') : Left w' p left :=
 ⟨cell_keep h.c hb, (hb.frozen (p := ⟨p, 0, none⟩) h.lt).trans h.f⟩
theorem Left.set {w : World} {p : Nat} {left : Int} (h : Left w p left) (l' : Int) : Left (w.setCell ⟨p, 0, none⟩ (.int .i64 l')) p l' :=
 ⟨World.cell?_setCell_same' w _ _ (by rw [h.c]; rfl), by rw [World.frozen?_setCell]; exact h.f⟩
theorem Left.far {w : World} {p : Nat} {left : Int} (h : Left w p left) {a : Addr} (hq : a.block ≠ p) (x : Value) : Left (w.setCell a x) p left :=
 ⟨(World.cell?_setCell_far w a ⟨p, 0, none⟩ x hq).trans h.c, by rw [World.frozen?_setCell]; exact h.f⟩
theorem Left.far5 {w : World} {p q : Nat} {left : Int} (h : Left w p left) (hq : q ≠ p) (x0 x1 x2 x3 x4 : Value) :
  Left (((((w.setCell ⟨q, 0, none⟩ x0).setCell ⟨q, 1, none⟩ x1).setCell ⟨q, 2, none⟩ x2).setCell ⟨q, 3, none⟩ x3).setCell ⟨q, 4, none⟩ x4) p left := by
 have h0 := h.far (a := ⟨q, 0, none⟩) hq x0
 have h1 := h0.far (a := ⟨q, 1, none⟩) hq x1
 have h2 := h1.far (a := ⟨q, 2, none⟩) hq x2
 have h3 := h2.far (a := ⟨q, 3, none⟩) hq x3
 exact h3.far (a := ⟨q, 4, none⟩) hq x4
theorem grown_far {w wr : World} {row : Option Nat} (h : w.grownBy wr row) {a : Addr} (hq : w.heap.size ≤ a.block) (x : Value) : w.grownBy (wr.setCell a x) row := by
 refine ⟨h.os, h.tape, h.output, by rw [World.size_setCell]; exact h.size, fun b hl hne => ?_⟩
 rw [Below.heap_setCell wr a x b (by omega)]
 exact h.block b hl hne
theorem grown_fill {w wr : World} {row : Option Nat} {q : Nat} (h : w.grownBy wr row) (hq : w.heap.size ≤ q) (x0 x1 x2 x3 x4 : Value) :
  w.grownBy (((((wr.setCell ⟨q, 0, none⟩ x0).setCell ⟨q, 1, none⟩ x1).setCell ⟨q, 2, none⟩ x2).setCell ⟨q, 3, none⟩ x3).setCell ⟨q, 4, none⟩ x4) row := by
 have h0 := grown_far h (a := ⟨q, 0, none⟩) hq x0
 have h1 := grown_far h0 (a := ⟨q, 1, none⟩) hq x1
 have h2 := grown_far h1 (a := ⟨q, 2, none⟩) hq x2
 have h3 := grown_far h2 (a := ⟨q, 3, none⟩) hq x3
 exact grown_far h3 (a := ⟨q, 4, none⟩) hq x4
theorem own_mono {w : World} {base base' : Nat} {e : TypeId} {size n : Nat} {v : Value} {xs : List Value} (h : w.ownsRow base e size v n xs) (hb : base' ≤ base) : w.ownsRow base' e size v n xs := by
 refine ⟨h.1, h.2.imp id ?_⟩
 rintro ⟨g, cap, cur, h1, h2, h3⟩
 exact ⟨g, cap, cur, h1, by omega, h3⟩
theorem own_strs {D : Blocks} {w : World} {base : Nat} {E : TypeId} {v : Value} {l : List Str} {x : Str} (h : w.ownsRow base E 1 v (l.length + 1) ((l.map fun s => .string ⟨s.toArray⟩) ++ [.string ⟨x.toArray⟩])) (hD : ∀ b, base ≤ b → D b) : StrsD D w v (l ++ [x]) := by
 have hcells := fun g => h.cells (g := g)
 rcases h.2 with ⟨rfl, h0⟩ | ⟨g, cap, cur, rfl, hg, _, hn, _⟩
 ·omega
 ·refine ⟨_, cap, by simp, by simpa using hn, fun _ => ⟨g, 0, rfl, hD g hg, fun i s hi => ?_⟩⟩
  have := hcells g rfl i (.string ⟨s.toArray⟩) (by
   have e : ((l.map fun s => Value.string ⟨s.toArray⟩) ++ [Value.string ⟨x.toArray⟩]) = (l ++ [x]).map fun s => Value.string ⟨s.toArray⟩ := by simp
   rw [e, List.getElem?_map, hi]; rfl)
  rw [Go.WideShapes.add_plain] at this
  exact this
theorem names_src {w : World} {A : Option Addr} {n c : Nat} {l : List Str} (h : IsStrs w (.slice A n c) l) : ∀ ad, A = some ad → ∀ j u, (l.map fun s => Value.string ⟨s.toArray⟩)[j]? = some u → w.cell? (ad.add j) = some u := by
 obtain ⟨A', c', e, _, h3⟩ := h
 injection e with e1 e2 e3
 subst e1
 intro ad e j u hj
 have hjl : j < l.length := by
  have := (List.getElem?_eq_some_iff.1 hj).1
  simpa using this
 obtain ⟨b, off, e', hr⟩ := h3 (by omega)
 rw [e] at e'
 obtain rfl := Option.some.inj e'
 rw [List.getElem?_map, List.getElem?_eq_getElem hjl] at hj
 simp only [Option.map_some, Option.some.injEq] at hj
 subst hj
 rw [Go.WideShapes.add_plain]
 exact hr j _ (List.getElem?_eq_getElem hjl)
theorem own_names {w : World} {base : Nat} {E : TypeId} {v : Value} {l : List Str} {x : Str} (h : w.ownsRow base E 1 v (l.length + 1) ((l.map fun s => .string ⟨s.toArray⟩) ++ [.string ⟨x.toArray⟩])) : Names w v (l ++ [x]) := by
 refine ⟨(own_strs (D := fun _ => True) h fun _ _ => trivial).is, fun n c e => ?_⟩
 rcases h.2 with ⟨_, h0⟩ | ⟨g, cap, cur, e', _⟩
 ·omega
 ·rw [e'] at e; cases e
theorem ones_strs (l : List Str) : ∀ u ∈ l.map (fun s => Value.string ⟨s.toArray⟩), u.oneCell' = true := by
 intro u hu
 obtain ⟨s, _, rfl⟩ := List.mem_map.1 hu
 rfl
theorem grown_in {w wr : World} {row : Option Nat} (h : w.grownBy wr row) {a : Addr} (hq : w.heap.size ≤ a.block) (x : Value) : w.grownBy (wr.setCell a x) row := by
 refine ⟨h.os, h.tape, h.output, by rw [World.size_setCell]; exact h.size, fun k hl hne => ?_⟩
 rw [← h.block k hl hne]
 unfold World.setCell
 simp only
 rw [Array.getElem?_modify, if_neg (by omega)]
def IntRow (w : World) (b off : Nat) (l : List Int) : Prop := ∀ i x, l[i]? = some x → w.cell? ⟨b, off + i, none⟩ = some (.int .i64 x)
def IntsD (D : Blocks) (w : World) (v : Value) (l : List Int) : Prop := ∃ A cap, v = .slice A l.length cap ∧ l.length ≤ cap ∧ (0 < l.length → ∃ b off, A = some ⟨b, off, none⟩ ∧ D b ∧ IntRow w b off l)
theorem IntsD.keep {D D' : Blocks} {w w' : World} {v : Value} {l : List Int} (h : IntsD D w v l) (hs : Same D w w') (hD : ∀ b, D b → b < w.heap.size → D' b) : IntsD D' w' v l := by
 obtain ⟨A, cap, h1, h2, h3⟩ := h
 refine ⟨A, cap, h1, h2, fun h0 => ?_⟩
 obtain ⟨b, off, e, hd, hr⟩ := h3 h0
 have hl : b < w.heap.size := by
  obtain ⟨s, hs⟩ : ∃ s, l[0]? = some s := ⟨_, List.getElem?_eq_getElem h0⟩
  exact cell_lt (hr 0 s hs)
 exact ⟨b, off, e, hD b hd hl, fun i s hi => hs.cell hd (hr i s hi)⟩
theorem IntsD.below {D : Blocks} {w w' : World} {v : Value} {t : List Int} (h : IntsD D w v t) (hb : Below w.heap.size w w') : IntsD D w' v t := h.keep (Same.below hb) fun _ h _ => h
theorem IntsD.one {D : Blocks} {w : World} {v : Value} {l : List Int} (h : IntsD D w v l) : v.oneCell' = true := by obtain ⟨A, cap, rfl, _⟩ := h; rfl
theorem IntsD.all {D : Blocks} {w : World} {v : Value} {l : List Int} (h : IntsD D w v l) : IntsD All w v l := h.keep (Same.refl _ _) fun _ _ _ => trivial
end Go.Proofs.YtpidjanngbaiiaaGreatDoor
namespace Go.Proofs.YtpidjanngbaiiaaGreatDoor
open Go.RowKit Go.Proofs

inductive Ty where
 | mk (kind sort : Int) (name : Str) (labels : List Str) (kids : List Ty)

namespace Ty
def kind : Ty → Int | mk k _ _ _ _ => k
def sort : Ty → Int | mk _ s _ _ _ => s
def name : Ty → Str | mk _ _ n _ _ => n
def labels : Ty → List Str | mk _ _ _ l _ => l
def kids : Ty → List Ty | mk _ _ _ _ k => k
end Ty

mutual
def TyAt (w : World) (b off : Nat) : Ty → Prop
 | .mk k s n ls ks => ∃ lv kv, w.cell? ⟨b, off, none⟩ = some (.int .i64 k) ∧ w.cell? ⟨b, off + 1, none⟩ = some (.int .i64 s) ∧ w.cell? ⟨b, off + 2, none⟩ = some (.string ⟨n.toArray⟩) ∧ w.cell? ⟨b, off + 3, none⟩ = some lv ∧ w.cell? ⟨b, off + 4, none⟩ = some kv ∧
   IsStrs w lv ls ∧ ∃ A cap, kv = .slice A ks.length cap ∧ ks.length ≤ cap ∧ (0 < ks.length → ∃ b' off', A = some ⟨b', off', none⟩ ∧ TyRow w b' off' ks)
def TyRow (w : World) (b off : Nat) : List Ty → Prop
 | [] => True
 | t :: r => TyAt w b off t ∧ TyRow w b (off + 5) r
end
def IsTys (w : World) (v : Value) (ks : List Ty) : Prop := ∃ A cap, v = .slice A ks.length cap ∧ ks.length ≤ cap ∧ (0 < ks.length → ∃ b off, A = some ⟨b, off, none⟩ ∧ TyRow w b off ks)
def IsTy (w : World) (v : Value) (t : Ty) : Prop := ∃ lv kv, v = .agg #[.int .i64 t.kind, .int .i64 t.sort, .string ⟨t.name.toArray⟩, lv, kv] ∧ IsStrs w lv t.labels ∧ IsTys w kv t.kids

theorem TyAt_iff (w : World) (b off : Nat) (t : Ty) : TyAt w b off t ↔ ∃ lv kv, w.cell? ⟨b, off, none⟩ = some (.int .i64 t.kind) ∧ w.cell? ⟨b, off + 1, none⟩ = some (.int .i64 t.sort) ∧ w.cell? ⟨b, off + 2, none⟩ = some (.string ⟨t.name.toArray⟩) ∧ w.cell? ⟨b, off + 3, none⟩ = some lv ∧ w.cell? ⟨b, off + 4, none⟩ = some kv ∧
  IsStrs w lv t.labels ∧ IsTys w kv t.kids := by
 cases t with
 | mk k s n ls ks => simp only [TyAt, IsTys, Ty.kind, Ty.sort, Ty.name, Ty.labels, Ty.kids]
theorem TyRow_at {w : World} {b : Nat} : ∀ {ks : List Ty} {off i : Nat} {t : Ty}, TyRow w b off ks → ks[i]? = some t → TyAt w b (off + i * 5) t := by
 intro ks
 induction ks with
 | nil => intro off i t _ h; simp at h
 | cons x r ih =>
  intro off i t h hi
  simp only [TyRow] at h
  match i, hi with
  | 0, hi => simp at hi; subst hi; simpa using h.1
  | i + 1, hi =>
   have := ih h.2 (by simpa using hi)
   rw [show off + (i + 1) * 5 = off + 5 + i * 5 by omega]
   exact this
theorem TyRow_of {w : World} {b : Nat} : ∀ {ks : List Ty} {off : Nat}, (∀ i t, ks[i]? = some t → TyAt w b (off + i * 5) t) → TyRow w b off ks := by
 intro ks
 induction ks with
 | nil => intro off _; simp [TyRow]
 | cons x r ih =>
  intro off h
  simp only [TyRow]
  refine ⟨by simpa using h 0 x rfl, ih fun i t hi => ?_⟩
  have := h (i + 1) t (by simpa using hi)
  rw [show off + (i + 1) * 5 = off + 5 + i * 5 by omega] at this
  exact this

mutual
theorem TyAt_keep {w w' : World} (hb : Below w.heap.size w w') : ∀ {b off : Nat} (t : Ty), TyAt w b off t → TyAt w' b off t
 | b, off, .mk k s n ls ks => by
  simp only [TyAt]
  rintro ⟨lv, kv, h0, h1, h2, h3, h4, h5, A, cap, h6, h7, h8⟩
  exact ⟨lv, kv, cell_keep h0 hb, cell_keep h1 hb, cell_keep h2 hb, cell_keep h3 hb, cell_keep h4 hb, h5.keep hb, A, cap, h6, h7, fun h0 => let ⟨b, off, e, hr⟩ := h8 h0; ⟨b, off, e, TyRow_keep hb ks hr⟩⟩
theorem TyRow_keep {w w' : World} (hb : Below w.heap.size w w') : ∀ {b off : Nat} (ks : List Ty), TyRow w b off ks → TyRow w' b off ks
 | _, _, [] => by simp [TyRow]
 | b, off, t :: r => by
  simp only [TyRow]
  rintro ⟨h1, h2⟩
  exact ⟨TyAt_keep hb t h1, TyRow_keep hb r h2⟩
end
theorem IsTys.keep {w w' : World} {v : Value} {ks : List Ty} (h : IsTys w v ks) (hb : Below w.heap.size w w') : IsTys w' v ks := by
 obtain ⟨A, cap, h1, h2, h3⟩ := h
 exact ⟨A, cap, h1, h2, fun h0 => let ⟨b, off, e, hr⟩ := h3 h0; ⟨b, off, e, TyRow_keep hb ks hr⟩⟩
theorem IsTy.keep {w w' : World} {v : Value} {t : Ty} (h : IsTy w v t) (hb : Below w.heap.size w w') : IsTy w' v t := by
 obtain ⟨lv, kv, h1, h2, h3⟩ := h
 exact ⟨lv, kv, h1, h2.keep hb, h3.keep hb⟩
end Go.Proofs.YtpidjanngbaiiaaGreatDoor
namespace Go.Proofs.YtpidjanngbaiiaaGreatDoor
open Go.RowKit Go.Proofs

def vchk (s n : Int) (t : List UInt8) : Int :=
 if s = 3 ∧ n = 0 then (if 100 < t.length then 2 else if Lib.validD t = true then 0 else 1)
 else if t = [] ∧ (s = 1 ∨ (s = 2 ∧ (n = 0 ∨ n = 1))) then 0 else 1
set_option maxRecDepth 100000
structure Ev where
 kind : Int
 vs : Int
 vn : Int
 vt : Str
 ty : Ty
 label : Str
def gnum (n : Nat) : Str := if h : n < 128 then [UInt8.ofNat n] else UInt8.ofNat (n % 128 + 128) :: gnum (n / 128)
termination_by n
decreasing_by omega
theorem gnum_small {n : Nat} (h : n < 128) : gnum n = [UInt8.ofNat n] := by rw [gnum, dif_pos h]
theorem gnum_big {n : Nat} (h : ¬ n < 128) : gnum n = UInt8.ofNat (n % 128 + 128) :: gnum (n / 128) := by rw [gnum, dif_neg h]
theorem gnum_len : ∀ (k n : Nat), n < 128 ^ k → 1 ≤ k → (gnum n).length ≤ k := by
 intro k
 induction k with
 | zero => intro n _ h; omega
 | succ k ih =>
  intro n h _
  by_cases h1 : n < 128
  ·rw [gnum_small h1]; simp
  ·rw [gnum_big h1, List.length_cons]
   cases k with
   | zero => simp at h; omega
   | succ k =>
    have := ih (n / 128) (by rw [Nat.div_lt_iff_lt_mul (by decide), ← Nat.pow_succ]; exact h) (by omega)
    omega
theorem gnum_len10 {n : Nat} (h : n < 18446744073709551616) : (gnum n).length ≤ 10 := gnum_len 10 n (Nat.lt_of_lt_of_le h (by decide)) (by decide)
def gtext (s : Str) : Str := gnum s.length ++ s
def zig (n : Int) : Nat := if 0 ≤ n then 2 * n.toNat else 2 * (-(n + 1)).toNat + 1
def byteOf (n : Int) : UInt8 := UInt8.ofNat n.toNat
def wchk (te : Int) (isN : Bool) (e : Ev) : Int :=
 if e.kind = 2 ∨ e.kind = 3 then vchk e.vs e.vn e.vt else if e.kind = 4 ∨ e.kind = 5 then te else if (e.kind = 6 ∨ e.kind = 7) ∧ isN = true then 0 else 1
def wireB (tx : Str) (e : Ev) : Str :=
 if e.kind = 2 ∨ e.kind = 3 then byteOf e.vs :: (if e.vs = 3 then gtext e.vt else if e.vs = 2 then [byteOf e.vn] else gnum (zig e.vn))
 else if e.kind = 4 ∨ e.kind = 5 then gtext tx else gtext e.label
def wireE (tx : Str) (e : Ev) : Str := byteOf e.kind :: wireB tx e

/-! ### Reading -/
def wn (s : Str) (frm : Nat) : Nat → Nat → Nat → Nat → Except Nat (Nat × Nat)
 | 0, _, _, _ => .error frm
 | f + 1, p, k, n => match s[p]? with
  | none => .error p
  | some c =>
   if k = 9 ∧ 1 < c.toNat then .error frm
   else if c.toNat < 128 then (if c.toNat = 0 ∧ 0 < k then .error frm else .ok (n + c.toNat % 128 * 128 ^ k, p + 1))
   else wn s frm f (p + 1) (k + 1) (n + c.toNat % 128 * 128 ^ k)
def wnum (s : Str) (p : Nat) : Except Nat (Nat × Nat) := wn s p 11 p 0 0
def lead (s : Str) : Nat → Nat → Nat
 | 0, _ => 0
 | f + 1, p => match s[p]? with
  | none => 0
  | some c => if 128 ≤ c.toNat then lead s f (p + 1) + 1 else 0
def gval (s : Str) (p : Nat) : Nat → Nat
 | 0 => 0
 | k + 1 => gval s p k + (s.getD (p + k) 0).toNat % 128 * 128 ^ k
def wEnd (s : Str) (p r : Nat) : Except Nat (Nat × Nat) :=
 if r < 10 ∧ p + r = s.length then .error (p + r)
 else if 10 ≤ r then .error p
 else if (0 < r ∧ (s.getD (p + r) 0).toNat = 0) ∨ (r = 9 ∧ 1 < (s.getD (p + r) 0).toNat) then .error p
 else .ok (gval s p (r + 1), p + r + 1)
def wnumR (s : Str) (p : Nat) : Except Nat (Nat × Nat) := wEnd s p (lead s 10 p)
theorem wEnd_short {s : Str} {p r : Nat} (h1 : r < 10) (h2 : p + r = s.length) : wEnd s p r = .error (p + r) := by unfold wEnd; exact if_pos ⟨h1, h2⟩
theorem wEnd_long {s : Str} {p r : Nat} (h1 : 10 ≤ r) : wEnd s p r = .error p := by unfold wEnd; rw [if_neg (fun e => by omega), if_pos h1]
theorem wEnd_bad {s : Str} {p r : Nat} {c : UInt8} (h1 : r < 10) (h2 : p + r ≠ s.length) (hc : s.getD (p + r) 0 = c) (h3 : (0 < r ∧ c.toNat = 0) ∨ (r = 9 ∧ 1 < c.toNat)) : wEnd s p r = .error p := by
 unfold wEnd
 rw [if_neg (fun e => h2 e.2), if_neg (fun e => by omega), hc, if_pos h3]
theorem wEnd_ok {s : Str} {p r : Nat} {c : UInt8} (h1 : r < 10) (h2 : p + r ≠ s.length) (hc : s.getD (p + r) 0 = c) (h3 : ¬ ((0 < r ∧ c.toNat = 0) ∨ (r = 9 ∧ 1 < c.toNat))) : wEnd s p r = .ok (gval s p (r + 1), p + r + 1) := by
 unfold wEnd
 rw [if_neg (fun e => h2 e.2), if_neg (fun e => by omega), hc, if_neg h3]
theorem wn_agree (s : Str) (p0 : Nat) : ∀ (m k : Nat), k + m = 10 → k < 10 → p0 + k ≤ s.length → wn s p0 (m + 1) (p0 + k) k (gval s p0 k) = wEnd s p0 (k + lead s m (p0 + k)) := by
 intro m
 induction m with
 | zero => intro k hk h _; omega
 | succ m ih =>
  intro k hk h10 hkl
  rw [wn, lead]
  cases hc : s[p0 + k]? with
  | none =>
   have hl : s.length ≤ p0 + k := List.getElem?_eq_none_iff.1 hc
   exact (wEnd_short (by omega) (by omega)).symm
  | some c =>
   have hl : p0 + k < s.length := (List.getElem?_eq_some_iff.1 hc).1
   have hg : s.getD (p0 + k) 0 = c := by simp [List.getD, hc]
   have hgv : gval s p0 (k + 1) = gval s p0 k + c.toNat % 128 * 128 ^ k := by rw [gval, hg]
   simp only
   by_cases h128 : 128 ≤ c.toNat
   ·rw [if_pos h128]
    by_cases h9 : k = 9
    ·rw [if_pos ⟨h9, by omega⟩, wEnd_long (by omega)]
    ·rw [if_neg (show ¬ (k = 9 ∧ 1 < c.toNat) by omega), if_neg (show ¬ c.toNat < 128 by omega), ← hgv]
     have := ih (k + 1) (by omega) (by omega) (by omega)
     rw [← Nat.add_assoc p0 k 1] at this
     rw [this]
     congr 1
     omega
   ·rw [if_neg h128]
    show _ = wEnd s p0 k
    by_cases h1 : k = 9 ∧ 1 < c.toNat
    ·rw [if_pos h1, wEnd_bad h10 (by omega) hg (.inr h1)]
    ·rw [if_neg h1, if_pos (show c.toNat < 128 by omega)]
     by_cases h2 : c.toNat = 0 ∧ 0 < k
     ·rw [if_pos h2, wEnd_bad h10 (by omega) hg (.inl ⟨h2.2, h2.1⟩)]
     ·rw [if_neg h2, wEnd_ok h10 (by omega) hg (by omega), hgv]
theorem wnum_agree (s : Str) (p : Nat) (hp : p ≤ s.length) : wnum s p = wnumR s p := by
 have h := wn_agree s p 10 0 rfl (by decide) hp
 rw [Nat.zero_add] at h
 exact h
set_option maxRecDepth 100000
abbrev ByteRow (w : World) (base : Nat) (v : Value) (l : Str) : Prop := w.ownsRow base 5 1 v l.length (Lib.byteCells l)
theorem byteRow_nil (w : World) (base : Nat) : ByteRow w base (.slice none 0 0) [] := World.ownsRow_nil _ _ _ _
theorem byteRow_app {w : World} {base : Nat} {v : Value} {l r : Str} (h : w.ownsRow base 5 1 v (l.length + r.length) (Lib.byteCells l ++ Lib.byteCells r)) : ByteRow w base v (l ++ r) := by
 show w.ownsRow _ _ _ _ _ _
 rw [List.length_append, Lib.byteCells_append]
 exact h
theorem conv_bytes {w : World} {base : Nat} {v : Value} {l : Str} (h : ByteRow w base v l) :
  ∀ n, (convert 62 9 v).run Tryz.prog (w.drewN n) = .ok (.string ⟨l.toArray⟩) (w.drewN n) := by
 intro n
 have h' : ByteRow (w.drewN n) base v l := h
 rcases h.2 with ⟨rfl, h0⟩ | ⟨g, cap, cur, rfl, -⟩
 ·have : l = [] := List.eq_nil_of_length_eq_zero h0
  subst this
  rw [run_convert_bytes_string (P := Tryz.prog) (w.drewN n) 62 9 5 none 0 0 Tryz.underlying62 Tryz.underlying5 Tryz.underlying9]
  first | rfl | go_simp
 ·refine run_convert_bytes_back (P := Tryz.prog) (w.drewN n) 62 9 5 ⟨g, 0, none⟩ cap l Tryz.underlying62 Tryz.underlying5 Tryz.underlying9 (fun j hj => ?_)
  exact h'.cells rfl j (.int .u8 ((l[j]).toNat)) (by simp [Lib.byteCells, List.getElem?_eq_getElem hj])
theorem conv_bytes0 {w : World} {base : Nat} {v : Value} {l : Str} (h : ByteRow w base v l) : (convert 62 9 v).run Tryz.prog w = .ok (.string ⟨l.toArray⟩) w := conv_bytes h 0
theorem bits_or8 (a b : Nat) (ha : a < 256) (hb : b < 256) : bits .or .u8 (a : Int) (b : Int) = ((a ||| b : Nat) : Int) := by
 have e : ∀ n : Nat, n < 256 → (BitVec.ofInt 8 (n : Int)).toNat = n := fun n hn => by
  rw [BitVec.ofInt_natCast, BitVec.toNat_ofNat]
  exact Nat.mod_eq_of_lt hn
 have hor : a ||| b < 256 := Nat.or_lt_two_pow (n := 8) ha hb
 show IntKind.u8.wrap (((BitVec.ofInt 8 (a : Int)) ||| (BitVec.ofInt 8 (b : Int))).toNat : Int) = _
 rw [BitVec.toNat_or, e a ha, e b hb, Go.IntWalk.u8_in _ (by omega)]
theorem or_128 (a : Nat) (h : a < 256) : a ||| 128 = a % 128 + 128 := by
 have : ∀ n : Fin 256, n.val ||| 128 = n.val % 128 + 128 := by decide +kernel
 exact this ⟨a, h⟩
theorem or128_run (m : Nat) : bits .or .u8 (((m % 256 : Nat) : Int)) 128 = ((m % 128 + 128 : Nat) : Int) := by
 have h := bits_or8 (m % 256) 128 (Nat.mod_lt _ (by decide)) (by decide)
 rw [or_128 _ (Nat.mod_lt _ (by decide)), Nat.mod_mod_of_dvd _ (by decide)] at h
 exact h
theorem byteCells_of {k : Nat} (h : k < 256) : Lib.byteCells [UInt8.ofNat k] = [.int .u8 (k : Nat)] := by
 have : ((UInt8.ofNat k).toNat : Int) = (k : Int) := by
  rw [UInt8.toNat_ofNat']
  omega
 show [Value.int .u8 ((UInt8.ofNat k).toNat : Int)] = _
 rw [this]
set_option maxHeartbeats 2000000 in
theorem wnumber_any (base : Nat) (v : Value) (out : Str) (m : Nat) (w : World) (hown : ByteRow w base v out) (hm : m < 18446744073709551616) (hl : out.length ≤ 100000000) (hb : base ≤ w.heap.size) :
  Calls Tryz.prog 31 #[v, .int .u64 m] w fun e w' => (∃ v', e = .returned v' ∧ ByteRow w' base v' (out ++ gnum m)) ∧ Below base w w' := by
 have hgl := gnum_len10 hm
 obtain ⟨R, hR⟩ : ∃ R, out ++ gnum m = R := ⟨_, rfl⟩
 have HR := Lib.hid hR
 have hRl : R.length ≤ 100000010 := by rw [← hR, List.length_append]; omega
 rw [hR]
 clear hR hgl
 go_enter Tryz.func31, Tryz.ntmps31
 go_wp2_with fail
 go_loopw [0, 1] (fun vv nv wr => ∃ (o : Str) (k : Nat), nv = .int .u64 k ∧ k < 18446744073709551616 ∧ Hid (o ++ gnum k = R) ∧ ByteRow wr base vv o ∧ Below base w wr) (fun _ nv _ => (intOf nv).toNat)
 case atStart => exact ⟨out, m, rfl, hm, HR, hown, Below.refl _ _⟩
 case round =>
  clear hown hm
  obtain ⟨o, k, rfl, hk, ho, hown, hbw⟩ := hrel
  obtain ⟨A3, c3, rfl⟩ := own_form hown
  have hsz : base ≤ wr.heap.size := Nat.le_trans hb hbw.size
  have hol : o.length ≤ 100000010 := by have := congrArg List.length ho.out; rw [List.length_append] at this; omega
  by_cases h128 : 128 ≤ k
  ·have hz : (128 : Int) ≤ (k : Int) := by omega
   have hgo : o ++ [UInt8.ofNat (k % 128 + 128)] ++ gnum (k / 128) = R := by
    rw [← ho.out, List.append_assoc]
    congr 1
    exact (gnum_big (show ¬ k < 128 by omega)).symm
   have HGO := Lib.hid hgo
   have hor := or128_run k
   have hor2 : bits .or .u8 ((k : Int) % 256) 128 = ((k % 128 + 128 : Nat) : Int) := hor
   have hbc := Lib.hid (byteCells_of (show k % 128 + 128 < 256 by omega))
   have hw1 := Lib.hid (show ((k : Int) / 128) = ((k / 128 : Nat) : Int) by omega)
   clear ho hgo hor
   go_wp2_with (at_builtin; go_must (refine wpList_app1 rt_bytes wr (.int .u8 ((k % 128 + 128 : Nat) : Int)) rfl (.tmp 9) (.tmp 13) rfl base (.slice A3 o.length c3) o.length (Lib.byteCells o) rfl hown rfl rfl (by omega) (by omega) hsz ?_; intro v3 w3 o1 o2 o3 o4))
   rw [← hbc.out] at o1
   try rw [hw1.out]
   refine ⟨⟨o ++ [UInt8.ofNat (k % 128 + 128)], k / 128, rfl, by omega, HGO, byteRow_app o1, hbw.trans o4⟩, ?_⟩
   simp [intOf] <;> omega
  ·have hz : ¬ (128 : Int) ≤ (k : Int) := by omega
   have hgo : o ++ [UInt8.ofNat k] = R := by rw [← ho.out, gnum_small (by omega)]
   have HGO := Lib.hid hgo
   have hbc := Lib.hid (byteCells_of (show k < 256 by omega))
   have hm256 : (k : Int) % 256 = (k : Int) := by omega
   clear ho hgo
   go_wp2_with (at_builtin; go_must (refine wpList_app1 rt_bytes wr (.int .u8 (k : Nat)) rfl (.tmp 15) (.tmp 18) rfl base (.slice A3 o.length c3) o.length (Lib.byteCells o) rfl hown rfl rfl (by omega) (by omega) hsz ?_; intro v3 w3 o1 o2 o3 o4))
   rw [← hbc.out] at o1
   go_ret
   exact ⟨⟨v3, rfl, by rw [← HGO.out]; exact byteRow_app o1⟩, hbw.trans o4⟩
set_option maxHeartbeats 2000000 in
theorem groups_any (m : Nat) (w : World) (hm : m < 18446744073709551616) :
  Calls Tryz.prog 27 #[.int .u64 m] w fun e w' => (∃ v', e = .returned v' ∧ ByteRow w' w.heap.size v' (gnum m)) ∧ Below w.heap.size w w' := by
 have hgl := gnum_len10 hm
 obtain ⟨R, hR⟩ : ∃ R, gnum m = R := ⟨_, rfl⟩
 have HR : Hid ([] ++ gnum m = R) := hR
 have hRl : R.length ≤ 10 := by rw [← hR]; exact hgl
 rw [hR]
 clear hR hgl
 go_enter Tryz.func27, Tryz.ntmps27
 go_wp2_with fail
 go_loopw [0, 3] (fun nv vv wr => ∃ (o : Str) (k : Nat), nv = .int .u64 k ∧ k < 18446744073709551616 ∧ Hid (o ++ gnum k = R) ∧ ByteRow wr w.heap.size vv o ∧ Below w.heap.size w wr) (fun nv _ _ => (intOf nv).toNat)
 case atStart => exact ⟨[], m, rfl, hm, HR, byteRow_nil _ _, Below.refl _ _⟩
 case round =>
  clear hm
  obtain ⟨o, k, rfl, hk, ho, hown, hbw⟩ := hrel
  obtain ⟨A3, c3, rfl⟩ := own_form hown
  have hsz : w.heap.size ≤ wr.heap.size := hbw.size
  have hol : o.length ≤ 10 := by have := congrArg List.length ho.out; rw [List.length_append] at this; omega
  have hq := Lib.hid (show ((k : Int) / 128) = ((k / 128 : Nat) : Int) by omega)
  by_cases h128 : k < 128
  ·have hz : ((k : Int) / 128) = 0 := by omega
   have hm1 : (k : Int) % 128 = (k : Int) := by omega
   have hm2 : (k : Int) % 256 = (k : Int) := by omega
   have hgo : o ++ [UInt8.ofNat k] = R := by rw [← ho.out, gnum_small h128]
   have HGO := Lib.hid hgo
   have hbc := Lib.hid (byteCells_of (show k < 256 by omega))
   clear ho hgo
   go_wp2_with (at_builtin; go_must (refine wpList_app1 rt_bytes wr (.int .u8 (k : Nat)) rfl (.tmp 12) (.tmp 14) rfl w.heap.size (.slice A3 o.length c3) o.length (Lib.byteCells o) rfl hown rfl rfl (by omega) (by omega) hsz ?_; intro v3 w3 o1 o2 o3 o4))
   rw [← hbc.out] at o1
   go_ret
   exact ⟨⟨v3, rfl, by rw [← HGO.out]; exact byteRow_app o1⟩, hbw.trans o4⟩
  ·have hz : (((k : Int) / 128) == 0) = false := by rw [beq_eq_false_iff_ne]; omega
   obtain ⟨r, hr⟩ : ∃ r, k % 128 = r := ⟨_, rfl⟩
   have hm1 : (k : Int) % 128 = (r : Int) := by omega
   have hm2 : (r : Int) % 256 = (r : Int) := by omega
   have hr128 : r < 128 := by omega
   have hgo : o ++ [UInt8.ofNat (r + 128)] ++ gnum (k / 128) = R := by
    rw [← ho.out, List.append_assoc, ← hr]
    congr 1
    exact (gnum_big h128).symm
   have HGO := Lib.hid hgo
   have hbc := Lib.hid (byteCells_of (show r + 128 < 256 by omega))
   clear ho hgo hr
   go_wp2_with (at_builtin; go_must (refine wpList_app1 rt_bytes wr (.int .u8 ((r : Int) + 128)) rfl (.tmp 16) (.tmp 19) rfl w.heap.size (.slice A3 o.length c3) o.length (Lib.byteCells o) rfl hown rfl rfl (by omega) (by omega) hsz ?_; intro v3 w3 o1 o2 o3 o4))
   have e : ((r : Int) + 128) = ((r + 128 : Nat) : Int) := by omega
   rw [e, ← hbc.out] at o1
   try rw [hq.out]
   refine ⟨⟨o ++ [UInt8.ofNat (r + 128)], k / 128, rfl, by omega, HGO, byteRow_app o1, hbw.trans o4⟩, ?_⟩
   simp [intOf] <;> omega
set_option maxRecDepth 100000
def low (l : Str) : Bool := l.all fun b => decide (97 ≤ b.toNat) && decide (b.toNat ≤ 122)
def alphabet : Str := [97, 98, 99, 100, 101, 102, 103, 104, 105, 106, 107, 108, 109, 110, 111, 112, 113, 114, 115, 116, 117, 118, 119, 120, 121, 122]
def words : List Str := [[116, 114, 117, 101], [102, 97, 108, 115, 101], [97, 110, 100], [111, 114], [110, 111, 116]]
def small (l : Str) : Bool := low l && decide (1 ≤ l.length) && decide (l.length ≤ 8)
def isName (l : Str) : Bool := small l && !decide (l ∈ words)
def isVar (l : Str) : Bool := isName l && (!(l == [101, 110, 100]) && !(l == [114, 101, 99]))

theorem alphabet_has (b : UInt8) : alphabet.contains b = (decide (97 ≤ b.toNat) && decide (b.toNat ≤ 122)) := by
 have : ∀ n : Fin 256, alphabet.contains (UInt8.ofNat n.val) = (decide (97 ≤ n.val) && decide (n.val ≤ 122)) := by decide +kernel
 have h := this ⟨b.toNat, b.toNat_lt⟩
 simpa using h
theorem dw_all {p : UInt8 → Bool} : ∀ {l : Str}, (∀ b ∈ l.dropWhile p, p b = true) → ∀ b ∈ l, p b = true := by
 intro l
 induction l with
 | nil => intro _ b hb; simp at hb
 | cons x l ih =>
  intro h b hb
  by_cases hx : p x = true
  ·rw [List.dropWhile_cons, if_pos hx] at h
   rcases List.mem_cons.1 hb with rfl | hb
   ·exact hx
   ·exact ih h b hb
  ·rw [List.dropWhile_cons, if_neg hx] at h
   exact h b hb
theorem dw_nil {p : UInt8 → Bool} : ∀ {l : Str}, (∀ b ∈ l, p b = true) → l.dropWhile p = [] := by
 intro l
 induction l with
 | nil => intro _; rfl
 | cons x l ih =>
  intro h
  rw [List.dropWhile_cons, if_pos (h x (by simp))]
  exact ih fun b hb => h b (by simp [hb])
theorem trim_low (l : Str) : Lib.trimS l alphabet = [] ↔ low l = true := by
 unfold Lib.trimS Lib.trimLeftS Lib.trimRightS low
 rw [List.all_eq_true]
 have he : ∀ b, (decide (97 ≤ b.toNat) && decide (b.toNat ≤ 122)) = alphabet.contains b := fun b => (alphabet_has b).symm
 simp only [he]
 constructor
 ·intro h
  have h1 : ∀ b ∈ (l.reverse.dropWhile (alphabet.contains ·)).reverse, alphabet.contains b = true := dw_all (by rw [h]; simp)
  have h2 := dw_all (p := (alphabet.contains ·)) (l := l.reverse) fun b hb => h1 b (by simpa using hb)
  intro b hb
  exact h2 b (by simpa using hb)
 ·intro h
  have h1 : l.reverse.dropWhile (alphabet.contains ·) = [] := dw_nil fun b hb => h b (by simpa using hb)
  rw [h1]
  rfl
theorem contains_mk (zs : List Str) (x : Str) : Lib.containsS (zs.map fun s => ⟨s.toArray⟩) ⟨x.toArray⟩ = decide (x ∈ zs) := by
 rw [Bool.eq_iff_iff, Lib.containsS_iff, decide_eq_true_eq, List.mem_map]
 constructor
 ·rintro ⟨s, hs, h⟩
  rw [mk_inj] at h
  exact h ▸ hs
 ·intro h
  exact ⟨x, h, rfl⟩

theorem contains_any {w : World} {v : Value} {zs : List Str} (h : IsStrs w v zs) (hl : zs.length ≤ 9223372036854775807) (x : Str) :
  Calls Tryz.prog 62 #[v, .string ⟨x.toArray⟩] w fun e w' => e = .returned (.bool (decide (x ∈ zs))) ∧ w' = w := by
 obtain ⟨A, cap, rfl, hc, h3⟩ := h
 rcases Nat.eq_zero_or_pos zs.length with h0 | h0
 ·obtain rfl := List.eq_nil_of_length_eq_zero h0
  simpa using Tryz.slices_Contains_string_empty A cap ⟨x.toArray⟩ w
 ·obtain ⟨b, off, rfl, hr⟩ := h3 h0
  have := Tryz.slices_Contains_string b off zs.length cap (zs.map fun s => ⟨s.toArray⟩) ⟨x.toArray⟩ w (by simp) hl (by
   intro j hj
   have hj' : j < zs.length := by simpa using hj
   rw [hr j zs[j] (by simp [hj'])]
   simp [List.getD, hj'])
  rw [List.take_of_length_le (by simp), contains_mk] at this
  exact this

theorem low_drop {l : Str} {k : Nat} {x : UInt8} (h : l[k]? = some x) : low (l.drop k) = ((decide (97 ≤ x.toNat) && decide (x.toNat ≤ 122)) && low (l.drop (k + 1))) := by
 obtain ⟨h1, h2⟩ := List.getElem?_eq_some_iff.1 h
 rw [List.drop_eq_getElem_cons h1, h2]
 rfl
set_option maxHeartbeats 1000000 in
theorem small_any (l : Str) (w : World) (hl : l.length ≤ 9223372036854775807) :
  Calls Tryz.prog 63 #[.string ⟨l.toArray⟩] w fun e w' => e = .returned (.bool (small l)) ∧ w' = w := by
 obtain ⟨ANS, hA⟩ : ∃ x, small l = x := ⟨_, rfl⟩
 have HA := Lib.hid hA; rw [hA]; clear hA
 go_enter Tryz.func63, Tryz.ntmps63
 go_wp2
 go_loop [3] (fun i => ∃ k : Nat, k ≤ l.length ∧ i = .int .i64 k ∧ Hid (low l = low (l.drop k))) (fun i => l.length - (intOf i).toNat)
 case atStart => exact ⟨0, by omega, rfl, rfl⟩
 case round =>
  obtain ⟨k, hk, rfl, hf⟩ := hrel
  by_cases hlt : k < l.length
  ·obtain ⟨x, hx⟩ : ∃ x, l[k]? = some x := ⟨_, List.getElem?_eq_getElem hlt⟩
   have HX := Lib.hid hx; clear hx
   have E : ((⟨l.toArray⟩ : ByteArray)[k]'(by simpa [ByteArray.size] using hlt)).toNat = x.toNat := by rw [byte_at' HX.out]
   go_wp2_with fail
   ·go_ret
    refine ⟨ret_bool' ?_, rfl⟩
    have := hf.out
    rw [low_drop HX.out] at this
    rw [← HA.out]
    have hx : ¬ (97 ≤ x.toNat ∧ x.toNat ≤ 122) := by omega
    unfold small
    rw [this]
    by_cases h97 : 97 ≤ x.toNat
    ·have : ¬ x.toNat ≤ 122 := fun h => hx ⟨h97, h⟩
     simp [this]
    ·simp [h97]
   ·refine ⟨⟨k + 1, by omega, by simp, ?_⟩, by simp [intOf]; omega⟩
    show low l = _
    have := hf.out
    rw [low_drop HX.out] at this
    have e1 : 97 ≤ x.toNat := by omega
    have e2 : x.toNat ≤ 122 := by omega
    rw [this]
    simp [e1, e2]
   ·go_ret
    refine ⟨ret_bool' ?_, rfl⟩
    have := hf.out
    rw [low_drop HX.out] at this
    rw [← HA.out]
    have h97 : ¬ 97 ≤ x.toNat := by omega
    unfold small
    rw [this]
    simp [h97]
  ·have hk' : k = l.length := by omega
   subst hk'
   clear hlt
   have hlow : low l = true := by rw [hf.out]; simp [low]
   have HL := Lib.hid hlow; clear hlow hf
   go_wp2_with fail
   ·go_ret
    refine ⟨ret_bool' ?_, rfl⟩
    rw [← HA.out]
    unfold small
    rw [HL.out]
    have e1 : 1 ≤ l.length := by omega
    simp [e1]
    omega
   ·go_ret
    refine ⟨ret_bool' ?_, rfl⟩
    rw [← HA.out]
    unfold small
    have e1 : ¬ 1 ≤ l.length := by omega
    simp [e1]

theorem words_in (w : World) : IsStrs (w.alloc (.cells #[.string ⟨#[116, 114, 117, 101]⟩, .string ⟨#[102, 97, 108, 115, 101]⟩, .string ⟨#[97, 110, 100]⟩, .string ⟨#[111, 114]⟩, .string ⟨#[110, 111, 116]⟩] 9)) (.slice (some ⟨w.heap.size, 0, none⟩) 5 5) words := by
 refine ⟨_, 5, rfl, by decide, fun _ => ⟨w.heap.size, 0, rfl, fun i s hi => ?_⟩⟩
 match i, hi with
 | 0, hi | 1, hi | 2, hi | 3, hi | 4, hi => simp [words] at hi; subst hi; simp [go_sem]
 | i + 5, hi => simp [words] at hi

set_option maxHeartbeats 1000000 in
theorem refIsName_any (l : Str) (w : World) (hl : l.length ≤ 9223372036854775807) :
  Calls Tryz.prog 22 #[.string ⟨l.toArray⟩] w fun e w' => e = .returned (.bool (isName l)) ∧ Below w.heap.size w w' := by
 obtain ⟨ANS, hA⟩ : ∃ x, isName l = x := ⟨_, rfl⟩
 have HA := Lib.hid hA; rw [hA]; clear hA
 cases hs : small l with
 | false =>
  have HS := Lib.hid hs; clear hs
  go_enter Tryz.func22, Tryz.ntmps22
  go_wp2_with fail
  refine (small_any l _ hl).mono ?_; rw [HS.out]; rintro e w1 ⟨rfl, rfl⟩
  go_wp2_with fail
  go_ret
  exact ⟨ret_bool' (by rw [← HA.out]; simp [isName, HS.out]), by go_grown⟩
 | true =>
  have HS := Lib.hid hs; clear hs
  go_enter Tryz.func22, Tryz.ntmps22
  go_wp2_with fail
  refine (small_any l _ hl).mono ?_; rw [HS.out]; rintro e w1 ⟨rfl, rfl⟩
  go_wp2_with fail
  refine (contains_any (words_in _) (by decide) l).mono ?_; rintro e w1 ⟨rfl, rfl⟩
  go_wp2_with fail
  go_ret
  exact ⟨ret_bool' (by rw [← HA.out]; simp [isName, HS.out]), by go_grown⟩

theorem trim_any (l : Str) (w : World) (hl : l.length ≤ 9223372036854775807) :
  Calls Tryz.prog 61 #[.string ⟨l.toArray⟩, .string ⟨#[97, 98, 99, 100, 101, 102, 103, 104, 105, 106, 107, 108, 109, 110, 111, 112, 113, 114, 115, 116, 117, 118, 119, 120, 121, 122]⟩] w fun e w' => e = .returned (.string ⟨(Lib.trimS l alphabet).toArray⟩) ∧ Below w.heap.size w w' :=
 Any.strings_Trim_laid Tryz.lays160 (by kernel_rfl) ⟨l.toArray⟩ ⟨alphabet.toArray⟩ w (by rw [Lib.size_eq]; exact hl) (by decide) (ascii_of_all (by decide +kernel))
set_option maxHeartbeats 1000000 in
theorem isName_any (l : Str) (w : World) (hl : l.length ≤ 9223372036854775807) :
    Calls Tryz.prog 21 #[.string ⟨l.toArray⟩] w fun e w' => e = .returned (.bool (isName l)) ∧ Below w.heap.size w w' := by
  obtain ⟨ANS, hA⟩ : ∃ x, isName l = x := ⟨_, rfl⟩
  have HA := Lib.hid hA; rw [hA]; clear hA
  by_cases h0 : l = []
  · subst h0
    go_enter Tryz.func21, Tryz.ntmps21
    go_wp2_with fail
    go_ret
    exact ⟨ret_bool' (by rw [← HA.out]; rfl), by go_grown⟩
  · have h1 : 1 ≤ l.length := by have : l.length ≠ 0 := by simpa using h0
                                 omega
    obtain ⟨T, hT⟩ : ∃ x, Lib.trimS l alphabet = x := ⟨_, rfl⟩
    have HT := Lib.hid hT; clear hT
    by_cases hlow : low l = true
    · have hT0 : T = [] := by rw [← HT.out]; exact (trim_low l).2 hlow
      subst hT0
      have HL := Lib.hid hlow; clear hlow
      have H1 := Lib.hid h1; clear h1
      have hE : l.isEmpty = false := by simpa using h0
      go_enter Tryz.func21, Tryz.ntmps21
      go_wp2_with fail
      · refine (trim_any l _ hl).mono ?_; rw [HT.out]; rintro e w1 ⟨rfl, hb1⟩
        have h8 : decide (8 < (l.length : Int)) = false := by simp; omega
        go_wp2_with fail
        refine (contains_any (words_in _) (by decide) l).mono ?_; rintro e w1 ⟨rfl, rfl⟩
        go_wp2_with fail
        go_ret
        refine ⟨ret_bool' ?_, chain hb1 (by go_grown)⟩
        have e1 := H1.out
        have e2 : l.length ≤ 8 := by omega
        rw [← HA.out]; simp [isName, small, HL.out, e1, e2]
      · go_ret
        refine ⟨ret_bool' ?_, by go_grown⟩
        have e2 : ¬ l.length ≤ 8 := by omega
        rw [← HA.out]; simp [isName, small, e2]
    · have hT0 : T ≠ [] := by rw [← HT.out]; exact fun h => hlow ((trim_low l).1 h)
      have hT1 : T.isEmpty = false := by simpa using hT0
      have hlow' : low l = false := by simpa using hlow
      have HL := Lib.hid hlow'; clear hlow hlow' hT0
      have H1 := Lib.hid h1; clear h1
      go_enter Tryz.func21, Tryz.ntmps21
      go_wp2_with fail
      · refine (trim_any l _ hl).mono ?_; rw [HT.out]; rintro e w1 ⟨rfl, hb1⟩
        go_wp2_with fail
        go_ret
        refine ⟨ret_bool' ?_, by go_grown⟩
        rw [← HA.out]; simp [isName, small, HL.out]
      · go_ret
        refine ⟨ret_bool' ?_, by go_grown⟩
        rw [← HA.out]; simp [isName, small, HL.out]

set_option maxHeartbeats 1000000 in
theorem refIsVar_any (l : Str) (w : World) (hl : l.length ≤ 9223372036854775807) :
  Calls Tryz.prog 102 #[.string ⟨l.toArray⟩] w fun e w' => e = .returned (.bool (isVar l)) ∧ Below w.heap.size w w' := by
 obtain ⟨ANS, hA⟩ : ∃ x, isVar l = x := ⟨_, rfl⟩
 have HA := Lib.hid hA; rw [hA]; clear hA
 obtain ⟨B, hs⟩ : ∃ x, isName l = x := ⟨_, rfl⟩
 have HS := Lib.hid hs; clear hs
 cases B
 all_goals
  go_enter Tryz.func102, Tryz.ntmps102
  go_wp2_with fail
  refine (refIsName_any l _ hl).mono ?_; rw [HS.out]; rintro e w1 ⟨rfl, hb1⟩
  go_wp2_with fail
  all_goals
   go_ret
   exact ⟨ret_bool' (by rw [← HA.out]; simp [isVar, HS.out, *]), by go_grown⟩

set_option maxHeartbeats 1000000 in
theorem isVar_any (l : Str) (w : World) (hl : l.length ≤ 9223372036854775807) :
  Calls Tryz.prog 149 #[.string ⟨l.toArray⟩] w fun e w' => e = .returned (.bool (isVar l)) ∧ Below w.heap.size w w' := by
 obtain ⟨ANS, hA⟩ : ∃ x, isVar l = x := ⟨_, rfl⟩
 have HA := Lib.hid hA; rw [hA]; clear hA
 obtain ⟨B, hs⟩ : ∃ x, isName l = x := ⟨_, rfl⟩
 have HS := Lib.hid hs; clear hs
 cases B
 all_goals
  go_enter Tryz.func149, Tryz.ntmps149
  go_wp2_with fail
  refine (isName_any l _ hl).mono ?_; rw [HS.out]; rintro e w1 ⟨rfl, hb1⟩
  go_wp2_with fail
  all_goals
   go_ret
   exact ⟨ret_bool' (by rw [← HA.out]; simp [isVar, HS.out, *]), by go_grown⟩
end Go.Proofs.YtpidjanngbaiiaaGreatDoor
