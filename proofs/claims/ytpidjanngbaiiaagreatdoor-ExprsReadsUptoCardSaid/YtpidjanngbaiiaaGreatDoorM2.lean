/-
  Small things that every text of this seat uses: utf8's tables as a hypothesis that outlives new memory, chains of 'Below', strings as lists of bytes.
  Rows of memory that a call owns: one bundle for a slice type's closed facts (RowType), and append onto an owned row stated with 'Below' (everything that was there before the call stays).
  Blocks of memory, rows of texts, boxes of one cell: what all walks share.
  Types (api.Type) as trees, and how they lie in memory.
  From a walk of a law ('it returns true, and all that was there stays') to what its row asks behind the call; utf8's tables out of the row's list; a world in which these tables lie.
  Data that come in, opened: structs of one-cell fields, slices of texts.
  Types that come in, opened: whatever reads as an api.Type is a tree that lies in memory, and its texts and rows are no longer than a length can be.
  Names: exprs.IsName, types.IsVar and the reference's small, IsName, IsVar answer 'isName' and 'isVar'.
  Labels: types.labels and the reference's Labels answer 'labelsOk'.
  The plain law of reading a type: what the program's reader takes off a text (rdOne), what the reference's takes (scanF), and that they agree.
  Precedence climbing (the program) against the shunting yard (the reference), over a text of which only the tokens are known: what the climbing finds, the yard finds.
-/
import Derived.Test.YtpidjanngbaiiaaGreatDoorShelf
import Derived.WalkKit
import Derived.WalkSpells
import Derived.WalkLawsBesides
import Derived.Handy
import Derived.BigQuiet
import Derived.Outline
import Derived.Lib.ValidU
import Derived.Lib.Hide
import Derived.Deep.Draws
import Derived.Maps.AppendAt
import Derived.Deep.AppendLies
import Derived.Lib.SlicesS
import Derived.Laws.AppendOwnNone
import Derived.Below
import Derived.Deep.RegionHeld
import Derived.ProofKit
import Derived.OpenShut
import Derived.Carry
import Derived.ChangeSame
import Derived.Deep.DeepHandedRow
import Derived.Lib.LaidTab
import Derived.Lib.LaidU8T
import Derived.PinnedBridge
import Derived.Lib.SmallJoins
import Derived.ChangeArms
import Derived.DataReads
import Derived.Deep.Slices
import Derived.Deep.Strs
import Derived.Deep.Fields
import Derived.Shelf.Strings.SlTrimAscii
import Derived.Deep.RegionHeld3
import Derived.Deep.DrawnRows
namespace Go.Proofs.YtpidjanngbaiiaaGreatDoor
open Go.RowKit Go.Proofs
theorem zA {α : Type _} {xs : List α} {i : Nat} (h : i < xs.toArray.size) : xs.toArray[i] = xs[i]'(by simpa using h) := List.getElem_toArray h
theorem zB {α : Type _} {a : α} {l : List α} {i : Nat} (h : i + 1 < (a :: l).length) : (a :: l)[i + 1] = l[i]'(Nat.lt_of_succ_lt_succ h) := List.getElem_cons_succ ..
theorem zC {α : Type _} {a : α} {l : List α} (h : 0 < (a :: l).length) : (a :: l)[0] = a := List.getElem_cons_zero ..
theorem zD {α : Type _} (l : List α) (i : Nat) (a : α) : l.toArray.setIfInBounds i a = (l.set i a).toArray := List.setIfInBounds_toArray ..
theorem zE {α : Type _} {x : α} {xs : List α} {a : α} : (x :: xs).set 0 a = a :: xs := rfl
theorem zF {α : Type _} {x : α} {xs : List α} {i : Nat} {a : α} : (x :: xs).set (i + 1) a = x :: xs.set i a := rfl
theorem zI {α : Sort _} {c : Prop} {a b : α} [Decidable c] (h : ¬ c := by first | omega | (simp; omega) | (simp only [List.length_append, List.length_cons, List.length_nil]; omega)) : (if c then a else b) = b := if_neg h

def Tabs (w : World) : Prop := Lib.Utf8Tabs 3 4 w
theorem Tabs.below {w w' : World} (h : Tabs w) (hb : Below w.heap.size w w') : Tabs w' := Utf8Tabs_below h hb
theorem Tabs.drew {w : World} (h : Tabs w) : Tabs w.drew := h
theorem Tabs.drewN {w : World} (h : Tabs w) (n : Nat) : Tabs (w.drewN n) := h

theorem step {w w1 w2 : World} (h1 : Below w.heap.size w w1) {B : Nat} (h2 : Below B w1 w2) (hB : w.heap.size ≤ B) : Below w.heap.size w w2 := h1.trans (h2.mono hB)
theorem chain {w w0 w1 : World} (h : Below w.heap.size w w0) (h1 : Below w0.heap.size w0 w1) : Below w.heap.size w w1 := h.trans (h1.mono h.size)
theorem below_drewN {B : Nat} {a w : World} (h : Below B a w) (n : Nat) : Below B a (w.drewN n) := ⟨h.os, h.tape, h.output, h.size, h.block⟩
theorem ret_int {k : IntKind} {a b : Int} (h : a = b) : Ending.returned (.int k a) = .returned (.int k b) := by rw [h]
theorem ret_bool {a b : Bool} (h : a = b) : Ending.returned (.bool a) = .returned (.bool b) := by rw [h]
theorem str_data (s : ByteArray) : s = ⟨s.data.toList.toArray⟩ := (Lib.mk_data s).symm
theorem ext_mid (t : List UInt8) (a b : Nat) : (⟨t.toArray⟩ : ByteArray).extract a b = ⟨((t.drop a).take (b - a)).toArray⟩ := Lib.extract_eq ⟨t.toArray⟩ a b
theorem ext_from (t : List UInt8) (a : Nat) : (⟨t.toArray⟩ : ByteArray).extract a t.length = ⟨(t.drop a).toArray⟩ := by
 rw [ext_mid, List.take_of_length_le (by rw [List.length_drop]; omega)]
theorem ext_to (t : List UInt8) (b : Nat) : (⟨t.toArray⟩ : ByteArray).extract 0 b = ⟨(t.take b).toArray⟩ := by
 rw [ext_mid]; simp
attribute [go_sem] ext_from ext_to
theorem own_keep {w w' : World} {base : Nat} {e : TypeId} {size n : Nat} {v : Value} {xs : List Value} (h : w.ownsRow base e size v n xs) {B : Nat} (hb : Below B w w') (hB : w.heap.size ≤ B) : w'.ownsRow base e size v n xs :=
 h.kept (row := Option.none) ⟨hb.os, hb.tape, hb.output, hb.size, fun q hq _ => hb.block q (by omega)⟩ (by cases v.ownBlock <;> simp)
end Go.Proofs.YtpidjanngbaiiaaGreatDoor
namespace Go.Proofs.YtpidjanngbaiiaaGreatDoor
open Go.RowKit Go.Proofs

structure RowType (P : Program) (T E : TypeId) (size bytes : Nat) : Prop where
 ht : P.underlying T = some (.slice E)
 ex : ∃ (i : TypeInfo) (z : Value), P.info? E = some i ∧ i.zero = some z ∧ i.size = size ∧ i.bytes = bytes ∧ z.cells.size = size
 pos : 0 < size

theorem RowType.mk' {P : Program} {T E : TypeId} {size bytes : Nat} {z : Value} (ht : P.underlying T = some (.slice E)) (h : (P.info? E).map (fun i => (i.zero, i.size, i.bytes)) = some (some z, size, bytes)) (hz : z.cells.size = size) (hp : 0 < size) : RowType P T E size bytes := by
 obtain ⟨i, h1, h2, h3, h4⟩ := info_parts h
 exact ⟨ht, ⟨i, z, h1, h2, h3, h4, hz⟩, hp⟩

section
variable {P : Program} {ops : Array Oper} {rest : List Oper} {o : Oper} {a : Act} {Q : Exit → Act → World → Prop} {w : World}

theorem wpList_app {T E : TypeId} {size bytes : Nat} (R : RowType P T E size bytes) (hgd : o.guard = none) (s x : Operand)
  (ho : o.op = .call { callee := .builtin .append, args := #[s, x], argTypes := #[T, T] })
  (base : Nat) (v : Value) (n : Nat) (xs : List Value) (hs : a.eval s = v) (hown : w.ownsRow base E size v n xs)
  (ad : Addr) (m c : Nat) (news : List Value) (hx : a.eval x = .slice (some ad) m c) (hl : news.length = m * size) (hnews : ∀ j u, news[j]? = some u → w.cell? (ad.add j) = some u) (h1 : ∀ u ∈ news, u.oneCell' = true)
  (h63 : n + m ≤ maxLen) (hbytes : (n + m) * bytes ≤ 140737488355328) (hbase : base ≤ w.heap.size)
  (h : ∀ v' w', w'.ownsRow base E size v' (n + m) (xs ++ news) → w.grownBy w' v.ownBlock → (v'.ownBlock = v.ownBlock ∨ v'.ownBlock = some w.heap.size) → Below base w w' → wpList P ops Q rest (a.put o.dst v') w') : wpList P ops Q (o :: rest) a w := by
 obtain ⟨i, z, hi, hz, hsize, hby, hzs⟩ := R.ex
 refine wpList_append_own_at w hgd s x T ho base E i z size bytes R.ht hi hz hsize hby hzs R.pos v n xs hs hown ad m c news hx hl hnews h1 h63 hbytes hbase ?_
 intro v' w' h2 h3 _ h5
 refine h v' w' h2 h3 h5 ?_
 exact (Below.refl _ _).grown h3 hbase (fun k hk => (hown.lt k hk).1)

theorem wpList_app1 {T E : TypeId} {bytes : Nat} (R : RowType P T E 1 bytes) (w : World) (u : Value) (hgd : o.guard = none) (s x : Operand)
  (ho : o.op = .call { callee := .builtin .append, args := #[s, x], argTypes := #[T, T] })
  (base : Nat) (v : Value) (n : Nat) (xs : List Value) (hs : a.eval s = v) (hown : w.ownsRow base E 1 v n xs)
  (hx : a.eval x = .slice (some ⟨w.heap.size, 0, none⟩) 1 1) (h1 : u.oneCell' = true)
  (hbytes : (n + 1) * bytes ≤ 140737488355328) (h63 : n + 1 ≤ 4611686018427387904) (hbase : base ≤ w.heap.size)
  (h : ∀ v' w', w'.ownsRow base E 1 v' (n + 1) (xs ++ [u]) → (w.alloc (.cells #[u] E)).grownBy w' v.ownBlock → (v'.ownBlock = v.ownBlock ∨ v'.ownBlock = some (w.heap.size + 1)) → Below base w w' → wpList P ops Q rest (a.put o.dst v') w') : wpList P ops Q (o :: rest) a (w.alloc (.cells #[u] E)) := by
 refine wpList_app R hgd s x ho base v n xs hs (hown.alloc _) ⟨w.heap.size, 0, none⟩ 1 1 [u] hx rfl (cell_one_new _ _ _) (by simpa using h1) (by unfold maxLen; omega) hbytes (by simp; omega) ?_
 intro v' w' h2 h3 h4 h5
 exact h v' w' h2 h3 (by simpa using h4) (((Below.refl _ _).alloc hbase _).trans h5)
end

theorem rt_runes : RowType Tryz.prog 119 21 1 4 := .mk' (z := .int .i32 0) Tryz.underlying119 (by kernel_rfl) rfl (by decide)
theorem rt_strs : RowType Tryz.prog 27 9 1 16 := .mk' (z := .string ⟨#[]⟩) Tryz.underlying27 (by kernel_rfl) rfl (by decide)
end Go.Proofs.YtpidjanngbaiiaaGreatDoor
namespace Go.Proofs.YtpidjanngbaiiaaGreatDoor
open Go.RowKit Go.Proofs
set_option maxRecDepth 100000

abbrev Str := List UInt8
def StrRow (w : World) (b off : Nat) (l : List Str) : Prop := ∀ i s, l[i]? = some s → w.cell? ⟨b, off + i, none⟩ = some (.string ⟨s.toArray⟩)
def IsStrs (w : World) (v : Value) (l : List Str) : Prop := ∃ A cap, v = .slice A l.length cap ∧ l.length ≤ cap ∧ (0 < l.length → ∃ b off, A = some ⟨b, off, none⟩ ∧ StrRow w b off l)
theorem cell_lt {w : World} {b o : Nat} {v : Value} (h : w.cell? ⟨b, o, none⟩ = some v) : b < w.heap.size := by
 unfold World.cell? at h
 rcases Nat.lt_or_ge b w.heap.size with hl | hl
 ·exact hl
 ·rw [Array.getElem?_eq_none hl] at h; cases h
theorem cell_keep {w w' : World} {b o : Nat} {v : Value} (h : w.cell? ⟨b, o, none⟩ = some v) (hb : Below w.heap.size w w') : w'.cell? ⟨b, o, none⟩ = some v :=
 (hb.cell (p := ⟨b, o, none⟩) (cell_lt h)).trans h
theorem StrRow.keep {w w' : World} {b off : Nat} {l : List Str} (h : StrRow w b off l) (hb : Below w.heap.size w w') : StrRow w' b off l := fun i s hi => cell_keep (h i s hi) hb
theorem IsStrs.keep {w w' : World} {v : Value} {l : List Str} (h : IsStrs w v l) (hb : Below w.heap.size w w') : IsStrs w' v l := by
 obtain ⟨A, cap, h1, h2, h3⟩ := h
 exact ⟨A, cap, h1, h2, fun h0 => let ⟨b, off, e, hr⟩ := h3 h0; ⟨b, off, e, hr.keep hb⟩⟩
section
variable {P : Program} {ops : Array Oper} {rest : List Oper} {o : Oper} {a : Act} {Q : Exit → Act → World → Prop} {w : World}
theorem wpList_app_any {T E : TypeId} {size bytes : Nat} (R : RowType P T E size bytes) (hgd : o.guard = none) (s x : Operand)
  (ho : o.op = .call { callee := .builtin .append, args := #[s, x], argTypes := #[T, T] })
  (base : Nat) (v : Value) (n : Nat) (xs : List Value) (hs : a.eval s = v) (hown : w.ownsRow base E size v n xs)
  (A : Option Addr) (m c : Nat) (hx : a.eval x = .slice A m c) (ys : List Value) (hl : ys.length = m * size) (hA : A = none → m = 0 ∧ c = 0) (hsrc : ∀ ad, A = some ad → ∀ j u, ys[j]? = some u → w.cell? (ad.add j) = some u) (h1 : ∀ u ∈ ys, u.oneCell' = true)
  (h63 : n + m ≤ maxLen) (hbytes : (n + m) * bytes ≤ 140737488355328) (hbase : base ≤ w.heap.size)
  (h : ∀ v' w', w'.ownsRow base E size v' (n + m) (xs ++ ys) → Below base w w' → wpList P ops Q rest (a.put o.dst v') w') : wpList P ops Q (o :: rest) a w := by
 cases A with
 | none =>
  obtain ⟨rfl, rfl⟩ := hA rfl
  obtain ⟨i, z, hi, hz, hsize, hby, hzs⟩ := R.ex
  refine wpList_append_own_none hgd s x T ho base E i size R.ht hi v n xs hs hown hx ?_
  have : ys = [] := List.eq_nil_of_length_eq_zero (by omega)
  subst this
  exact h v w (by simpa using hown) (Below.refl _ _)
 | some ad =>
  exact wpList_app R hgd s x ho base v n xs hs hown ad m c ys hx hl (hsrc ad rfl) h1 h63 hbytes hbase fun v' w' k1 _ _ k4 => h v' w' k1 k4
end
theorem IsStrs.one {w : World} {v : Value} {l : List Str} (h : IsStrs w v l) : v.oneCell' = true := by obtain ⟨A, cap, rfl, _⟩ := h; rfl
theorem own_form {w : World} {base : Nat} {E : TypeId} {size n : Nat} {v : Value} {xs : List Value} (h : w.ownsRow base E size v n xs) : ∃ A cap, v = .slice A n cap := by
 rcases h.2 with ⟨rfl, h0⟩ | ⟨g, cap, cur, rfl, _⟩
 ·rw [h0]; exact ⟨_, _, rfl⟩
 ·exact ⟨_, _, rfl⟩
theorem mem_of_at {α : Type} {l : List α} {i : Nat} {a : α} (h : l[i]? = some a) : a ∈ l := List.mem_of_getElem? h
abbrev Blocks := Nat → Prop
def StrsD (D : Blocks) (w : World) (v : Value) (l : List Str) : Prop := ∃ A cap, v = .slice A l.length cap ∧ l.length ≤ cap ∧ (0 < l.length → ∃ b off, A = some ⟨b, off, none⟩ ∧ D b ∧ StrRow w b off l)
def Same (D : Blocks) (w w' : World) : Prop := ∀ b, D b → b < w.heap.size → w'.heap[b]? = w.heap[b]?
theorem Same.cell {D : Blocks} {w w' : World} (h : Same D w w') {b o : Nat} (hD : D b) {v : Value} (hc : w.cell? ⟨b, o, none⟩ = some v) : w'.cell? ⟨b, o, none⟩ = some v := by
 have hl := cell_lt hc
 unfold World.cell? at hc ⊢
 rw [h b hD hl]
 exact hc
theorem Same.below {D : Blocks} {w w' : World} (hb : Below w.heap.size w w') : Same D w w' := fun b _ hl => hb.block b hl
theorem Same.grown {D : Blocks} {w w' : World} {row : Option Nat} (hg : w.grownBy w' row) (h : ∀ b, D b → some b ≠ row) : Same D w w' := fun b hD hl => hg.block b hl (h b hD)
theorem Same.set {D : Blocks} {w : World} {p : Addr} {u : Value} (h : ¬ D p.block) : Same D w (w.setCell p u) := by
 intro b hD hl
 have hne : p.block ≠ b := fun e => h (e ▸ hD)
 unfold World.setCell
 simp only
 rw [Array.getElem?_modify, if_neg hne]
theorem Same.trans {D : Blocks} {a b c : World} (h1 : Same D a b) (hs : a.heap.size ≤ b.heap.size) (h2 : Same D b c) : Same D a c := fun k hD hl => (h2 k hD (by omega)).trans (h1 k hD hl)
theorem StrsD.keep {D D' : Blocks} {w w' : World} {v : Value} {l : List Str} (h : StrsD D w v l) (hs : Same D w w') (hD : ∀ b, D b → b < w.heap.size → D' b) : StrsD D' w' v l := by
 obtain ⟨A, cap, h1, h2, h3⟩ := h
 refine ⟨A, cap, h1, h2, fun h0 => ?_⟩
 obtain ⟨b, off, e, hd, hr⟩ := h3 h0
 have hl : b < w.heap.size := by
  obtain ⟨s, hs⟩ : ∃ s, l[0]? = some s := ⟨_, List.getElem?_eq_getElem h0⟩
  exact cell_lt (hr 0 s hs)
 exact ⟨b, off, e, hD b hd hl, fun i s hi => hs.cell hd (hr i s hi)⟩
theorem StrsD.is {D : Blocks} {w : World} {v : Value} {l : List Str} (h : StrsD D w v l) : IsStrs w v l := by
 obtain ⟨A, cap, h1, h2, h3⟩ := h
 exact ⟨A, cap, h1, h2, fun h0 => let ⟨b, off, e, _, hr⟩ := h3 h0; ⟨b, off, e, hr⟩⟩
theorem IsStrs.toD {w : World} {v : Value} {l : List Str} (h : IsStrs w v l) : StrsD (· < w.heap.size) w v l := by
 obtain ⟨A, cap, h1, h2, h3⟩ := h
 refine ⟨A, cap, h1, h2, fun h0 => ?_⟩
 obtain ⟨b, off, e, hr⟩ := h3 h0
 obtain ⟨s, hs⟩ : ∃ s, l[0]? = some s := ⟨_, List.getElem?_eq_getElem h0⟩
 exact ⟨b, off, e, cell_lt (hr 0 s hs), hr⟩
theorem own_set {w : World} {base : Nat} {e : TypeId} {size n : Nat} {v : Value} {xs : List Value} (h : w.ownsRow base e size v n xs) {p : Addr} (hp : p.block < base) (u : Value) : (w.setCell p u).ownsRow base e size v n xs := by
 refine h.kept (row := some p.block) ⟨rfl, rfl, rfl, by rw [World.size_setCell]; exact Nat.le_refl _, fun b hl hne => ?_⟩ ?_
 ·exact (Same.set (D := fun k => k ≠ p.block) (w := w) (p := p) (u := u) (fun h => h rfl)) b (fun e => hne (by rw [e])) hl
 ·rcases h.2 with ⟨rfl, _⟩ | ⟨g, cap, cur, rfl, hg, _⟩
  ·exact Or.inl rfl
  ·refine Or.inr fun e => ?_
   have e' : g = p.block := Option.some.inj e
   omega
structure Names (w : World) (v : Value) (l : List Str) : Prop where
 s : IsStrs w v l
 z : ∀ n c, v = .slice none n c → c = 0
theorem Names.keep {w w' : World} {v : Value} {l : List Str} (h : Names w v l) (hb : Below w.heap.size w w') : Names w' v l := ⟨h.s.keep hb, h.z⟩
theorem Names.one {w : World} {v : Value} {l : List Str} (h : Names w v l) : v.oneCell' = true := h.s.one
theorem Names.none (w : World) : Names w (.slice none 0 0) [] := ⟨⟨Option.none, 0, rfl, Nat.le_refl _, fun h => by simp at h⟩, fun n c e => by injection e with _ _ e; exact e.symm⟩
abbrev All : Blocks := fun _ => True
theorem Same.refl (D : Blocks) (w : World) : Same D w w := fun _ _ _ => rfl
theorem StrsD.below {D : Blocks} {w w' : World} {v : Value} {t : List Str} (h : StrsD D w v t) (hb : Below w.heap.size w w') : StrsD D w' v t := h.keep (Same.below hb) fun _ h _ => h
theorem StrsD.one {D : Blocks} {w : World} {v : Value} {l : List Str} (h : StrsD D w v l) : v.oneCell' = true := h.is.one
theorem cell_ne {b : Nat} {i j : Nat} {w : World} {u : Value} (h : i ≠ j) : (w.setCell ⟨b, i, none⟩ u).cell? ⟨b, j, none⟩ = w.cell? ⟨b, j, none⟩ := World.cell?_setCell_other _ _ _ _ (fun e => h (by injection e))
theorem cell_eq {b : Nat} {i : Nat} {w : World} {u x : Value} (h : w.cell? ⟨b, i, none⟩ = some x) : (w.setCell ⟨b, i, none⟩ u).cell? ⟨b, i, none⟩ = some u := World.cell?_setCell_same' _ _ _ (by rw [h]; rfl)
theorem StrsD.any {w : World} {v : Value} {l : List Str} (h : IsStrs w v l) : StrsD All w v l := h.toD.keep (Same.refl _ _) fun _ _ _ => trivial
theorem byte_at' {l : Str} {k : Nat} {b : UInt8} (h : l[k]? = some b) (hk : k < (⟨l.toArray⟩ : ByteArray).size) : (⟨l.toArray⟩ : ByteArray)[k]'hk = b := by
 have : (⟨l.toArray⟩ : ByteArray)[k]'hk = l[k]'(by simpa [ByteArray.size] using hk) := rfl
 rw [this]
 exact (List.getElem?_eq_some_iff.1 h).2
theorem ret_bool' {a b : Bool} (h : a = b) : Ending.returned (.bool a) = .returned (.bool b) := by rw [h]
theorem mk_inj {a b : Str} : ((⟨a.toArray⟩ : ByteArray) = ⟨b.toArray⟩) ↔ a = b := by
 constructor
 ·intro h
  have := congrArg (fun x : ByteArray => x.data.toList) h
  simpa using this
 ·rintro rfl; rfl
theorem grown_set (w : World) (p : Nat) (u : Value) : w.grownBy (w.setCell ⟨p, 0, none⟩ u) (some p) :=
 ⟨rfl, rfl, rfl, by rw [World.size_setCell]; exact Nat.le_refl _, fun b _ h => Below.heap_setCell w _ u b (fun e => h (by rw [e]))⟩
theorem grown_below {w w' : World} (h : Below w.heap.size w w') (row : Option Nat) : w.grownBy w' row := ⟨h.os, h.tape, h.output, h.size, fun b hl _ => h.block b hl⟩
theorem same_p {w w' : World} {p : Nat} (h : w.grownBy w' (some p)) : Same (· ≠ p) w w' := Same.grown h (fun b hb e => hb (by injection e))
structure Left (w : World) (p : Nat) (left : Int) : Prop where
 c : w.cell? ⟨p, 0, none⟩ = some (.int .i64 left)
 f : w.frozen? ⟨p, 0, none⟩ = false
theorem Left.lt {w : World} {p : Nat} {left : Int} (h : Left w p left) : p < w.heap.size := cell_lt h.c
theorem Left.keep {w w' : World} {p : Nat} {left : Int} (h : Left w p left) (hb : Below w.heap.size w w') : Left w' p left :=
 ⟨cell_keep h.c hb, (hb.frozen (p := ⟨p, 0, none⟩) h.lt).trans h.f⟩
theorem Left.set {w : World} {p : Nat} {left : Int} (h : Left w p left) (l' : Int) : Left (w.setCell ⟨p, 0, none⟩ (.int .i64 l')) p l' :=
 ⟨World.cell?_setCell_same' w _ _ (by rw [h.c]; rfl), by rw [World.frozen?_setCell]; exact h.f⟩
theorem Left.far {w : World} {p : Nat} {left : Int} (h : Left w p left) {a : Addr} (hq : a.block ≠ p) (x : Value) : Left (w.setCell a x) p left :=
 ⟨(World.cell?_setCell_far w a ⟨p, 0, none⟩ x hq).trans h.c, by rw [World.frozen?_setCell]; exact h.f⟩
theorem grown_in {w wr : World} {row : Option Nat} (h : w.grownBy wr row) {a : Addr} (hq : w.heap.size ≤ a.block) (x : Value) : w.grownBy (wr.setCell a x) row := by
 refine ⟨h.os, h.tape, h.output, by rw [World.size_setCell]; exact h.size, fun k hl hne => ?_⟩
 rw [← h.block k hl hne]
 unfold World.setCell
 simp only
 rw [Array.getElem?_modify, if_neg (by omega)]
def IntRow (w : World) (b off : Nat) (l : List Int) : Prop := ∀ i x, l[i]? = some x → w.cell? ⟨b, off + i, none⟩ = some (.int .i64 x)
def IntsD (D : Blocks) (w : World) (v : Value) (l : List Int) : Prop := ∃ A cap, v = .slice A l.length cap ∧ l.length ≤ cap ∧ (0 < l.length → ∃ b off, A = some ⟨b, off, none⟩ ∧ D b ∧ IntRow w b off l)
theorem IntsD.keep {D D' : Blocks} {w w' : World} {v : Value} {l : List Int} (h : IntsD D w v l) (hs : Same D w w') (hD : ∀ b, D b → b < w.heap.size → D' b) : IntsD D' w' v l := by
 obtain ⟨A, cap, h1, h2, h3⟩ := h
 refine ⟨A, cap, h1, h2, fun h0 => ?_⟩
 obtain ⟨b, off, e, hd, hr⟩ := h3 h0
 have hl : b < w.heap.size := by
  obtain ⟨s, hs⟩ : ∃ s, l[0]? = some s := ⟨_, List.getElem?_eq_getElem h0⟩
  exact cell_lt (hr 0 s hs)
 exact ⟨b, off, e, hD b hd hl, fun i s hi => hs.cell hd (hr i s hi)⟩
theorem IntsD.below {D : Blocks} {w w' : World} {v : Value} {t : List Int} (h : IntsD D w v t) (hb : Below w.heap.size w w') : IntsD D w' v t := h.keep (Same.below hb) fun _ h _ => h
theorem IntsD.one {D : Blocks} {w : World} {v : Value} {l : List Int} (h : IntsD D w v l) : v.oneCell' = true := by obtain ⟨A, cap, rfl, _⟩ := h; rfl
theorem IntsD.all {D : Blocks} {w : World} {v : Value} {l : List Int} (h : IntsD D w v l) : IntsD All w v l := h.keep (Same.refl _ _) fun _ _ _ => trivial
end Go.Proofs.YtpidjanngbaiiaaGreatDoor
namespace Go.Proofs.YtpidjanngbaiiaaGreatDoor
open Go.RowKit Go.Proofs

inductive Ty where
 | mk (kind sort : Int) (name : Str) (labels : List Str) (kids : List Ty)

namespace Ty
def kind : Ty → Int | mk k _ _ _ _ => k
def sort : Ty → Int | mk _ s _ _ _ => s
def name : Ty → Str | mk _ _ n _ _ => n
def labels : Ty → List Str | mk _ _ _ l _ => l
def kids : Ty → List Ty | mk _ _ _ _ k => k
end Ty

mutual
def TyAt (w : World) (b off : Nat) : Ty → Prop
 | .mk k s n ls ks => ∃ lv kv, w.cell? ⟨b, off, none⟩ = some (.int .i64 k) ∧ w.cell? ⟨b, off + 1, none⟩ = some (.int .i64 s) ∧ w.cell? ⟨b, off + 2, none⟩ = some (.string ⟨n.toArray⟩) ∧ w.cell? ⟨b, off + 3, none⟩ = some lv ∧ w.cell? ⟨b, off + 4, none⟩ = some kv ∧
   IsStrs w lv ls ∧ ∃ A cap, kv = .slice A ks.length cap ∧ ks.length ≤ cap ∧ (0 < ks.length → ∃ b' off', A = some ⟨b', off', none⟩ ∧ TyRow w b' off' ks)
def TyRow (w : World) (b off : Nat) : List Ty → Prop
 | [] => True
 | t :: r => TyAt w b off t ∧ TyRow w b (off + 5) r
end
def IsTys (w : World) (v : Value) (ks : List Ty) : Prop := ∃ A cap, v = .slice A ks.length cap ∧ ks.length ≤ cap ∧ (0 < ks.length → ∃ b off, A = some ⟨b, off, none⟩ ∧ TyRow w b off ks)
def IsTy (w : World) (v : Value) (t : Ty) : Prop := ∃ lv kv, v = .agg #[.int .i64 t.kind, .int .i64 t.sort, .string ⟨t.name.toArray⟩, lv, kv] ∧ IsStrs w lv t.labels ∧ IsTys w kv t.kids

mutual
theorem TyAt_keep {w w' : World} (hb : Below w.heap.size w w') : ∀ {b off : Nat} (t : Ty), TyAt w b off t → TyAt w' b off t
 | b, off, .mk k s n ls ks => by
  simp only [TyAt]
  rintro ⟨lv, kv, h0, h1, h2, h3, h4, h5, A, cap, h6, h7, h8⟩
  exact ⟨lv, kv, cell_keep h0 hb, cell_keep h1 hb, cell_keep h2 hb, cell_keep h3 hb, cell_keep h4 hb, h5.keep hb, A, cap, h6, h7, fun h0 => let ⟨b, off, e, hr⟩ := h8 h0; ⟨b, off, e, TyRow_keep hb ks hr⟩⟩
theorem TyRow_keep {w w' : World} (hb : Below w.heap.size w w') : ∀ {b off : Nat} (ks : List Ty), TyRow w b off ks → TyRow w' b off ks
 | _, _, [] => by simp [TyRow]
 | b, off, t :: r => by
  simp only [TyRow]
  rintro ⟨h1, h2⟩
  exact ⟨TyAt_keep hb t h1, TyRow_keep hb r h2⟩
end
theorem IsTys.keep {w w' : World} {v : Value} {ks : List Ty} (h : IsTys w v ks) (hb : Below w.heap.size w w') : IsTys w' v ks := by
 obtain ⟨A, cap, h1, h2, h3⟩ := h
 exact ⟨A, cap, h1, h2, fun h0 => let ⟨b, off, e, hr⟩ := h3 h0; ⟨b, off, e, TyRow_keep hb ks hr⟩⟩
theorem IsTy.keep {w w' : World} {v : Value} {t : Ty} (h : IsTy w v t) (hb : Below w.heap.size w w') : IsTy w' v t := by
 obtain ⟨lv, kv, h1, h2, h3⟩ := h
 exact ⟨lv, kv, h1, h2.keep hb, h3.keep hb⟩
end Go.Proofs.YtpidjanngbaiiaaGreatDoor
namespace Go.Proofs.YtpidjanngbaiiaaGreatDoor
open Go.ChangeShapes Go.WideShapes Go.ChangeAt Go.RowKit Go.Joins Go.Lib

section
variable {H : Type} {enc : TypeId × Value → H} {P : Program}
theorem trodAll_below (hl : laidOutB P = true) {W W' : World} (hb : Below W.heap.size W W') : ∀ {ts : List TypeId} {vs : List Value} {ds : List (DataW H)} {ps : List MemPlace}, (∀ t ∈ ts, P.readableRec t = true ∧ t < P.types.size) →
  DataW.TrodAll enc P W 0 (fun _ => true) true ts vs ds ps → (∀ x ∈ ps, x.block < W.heap.size) → DataW.TrodAll enc P W' 0 (fun b => decide (b < W.heap.size)) true ts vs ds ps := by
 intro ts
 induction ts with
 | nil =>
  intro vs ds ps _ h _
  match vs, ds, h with
  | [], [], h => exact h
 | cons t ts ih =>
  intro vs ds ps hr h hlt
  cases vs with
  | nil => cases h
  | cons v vs =>
   cases ds with
   | nil => cases h
   | cons d ds =>
    obtain ⟨p, q, h1, h2, hp⟩ := h
    subst hp
    exact ⟨p, q, Below.trod hl (hr t (by simp)).1 (hr t (by simp)).2 h1 hb (fun x hx => hlt x (by simp [hx])), ih (fun t ht => hr t (by simp [ht])) h2 (fun x hx => hlt x (by simp [hx])), rfl⟩

theorem law_post {f : FuncId} {fn : Func} {s : ChangeSpec} {W : World} {args : Array Value} {ds gs : List (DataW H)} {before : List MemPlace} {tb : TypeId} (hl : laidOutB P = true) (hr : (fn.params.toList.all fun t => P.readableRec t && decide (t < P.types.size)) = true)
  (hvars : s.vars = []) (hres : fn.resultTypes = #[tb]) (htb : P.underlying tb = some .bool)
  (hW : DataW.Whole enc P fn.params.toList s.vars false W args.toList ds gs before) (hspec : s.fn H ds = { results := [.lit (.bool true)], args := ds })
  (walk : Calls P f args W fun e w' => e = .returned (.bool true) ∧ Below W.heap.size W w') :
  Calls P f args W fun e W' => ∃ v, e = .returned v ∧ s.post enc P fn false true false false W args v W' := by
 refine walk.mono fun e W' ⟨he, hb⟩ => ?_
 subst he
 have hlt : ∀ p ∈ before, p.block < W.heap.size := fun p hp => hW.lt p hp
 have hW' := hW
 obtain ⟨p, q, hA, hV, rfl, hz, hn⟩ := hW'
 rw [hvars] at hV
 have hgs : gs = [] ∧ q = [] := by
  cases gs with
  | nil => exact ⟨rfl, hV⟩
  | cons a b => cases hV
 obtain ⟨rfl, rfl⟩ := hgs
 have hr' : ∀ t ∈ fn.params.toList, P.readableRec t = true ∧ t < P.types.size := by
  intro t ht
  have := List.all_eq_true.1 hr t ht
  simpa using this
 refine ⟨.bool true, rfl, ds, [], p ++ [], [], p, [], hW, ?_, ?_, ?_, hb.frame _, fun h => by cases h⟩
 ·rw [List.append_nil, hspec, hres]
  exact trodAll_mk1 (shut_bool htb _)
 ·rw [List.append_nil, hspec]
  exact trodAll_below hl hb hr' hA (fun x hx => hlt x (by simp [hx]))
 ·rw [hvars, List.append_nil, hspec]
  rfl
end

theorem own : ownKnob Tryz.prog.godebug = none := by kernel_rfl
theorem laidOut : laidOutB Tryz.prog = true := by kernel_rfl

theorem u8types : U8Types Tryz.prog Tryz.lays196_ren := U8Types.of196 Tryz.lays196
theorem u8extra : U8Extra Tryz.prog Tryz.lays196_ren := ⟨by kernel_rfl, by kernel_rfl, by kernel_rfl, by kernel_rfl, by kernel_rfl, by kernel_rfl, by kernel_rfl⟩
theorem tabs_of {laid : List (String × DataW Unit)} {W : World} (h : laidMet Tryz.prog laid W) (h1 : ("unicode/utf8.first", Go.Pinned.utf8First) ∈ laid) (h2 : ("unicode/utf8.acceptRanges", acceptData) ∈ laid) : Tabs W :=
 utf8Tabs_of_readsT u8types u8extra (by rw [← Go.Pinned.utf8First_eq]; exact laidMet.reads h h1) (laidMet.reads h h2)
end Go.Proofs.YtpidjanngbaiiaaGreatDoor
namespace Go.Proofs.YtpidjanngbaiiaaGreatDoor
open Go.ChangeShapes Go.WideShapes Go.ChangeAt Go.RowKit Go.Joins Go.Lib Go.Deep

set_option maxRecDepth 100000
section
variable {H : Type} {enc : TypeId × Value → H} {P : Program} {w : World} {base : Nat} {spare : Nat → Bool} {held : Bool}
end
section
variable {H : Type} {enc : TypeId × Value → H} {W : World}
end
end Go.Proofs.YtpidjanngbaiiaaGreatDoor
namespace Go.Proofs.YtpidjanngbaiiaaGreatDoor
open Go.ChangeShapes Go.WideShapes Go.ChangeAt Go.RowKit Go.Joins Go.Lib Go.Deep

inductive Fit : Ty → Prop where
 | mk (k s : Int) (n : Str) (ls : List Str) (ks : List Ty) (hk : (Lit.int .i64 k).wf = true) (hs : (Lit.int .i64 s).wf = true) (hn : n.length ≤ maxLen) (hl : ls.length ≤ maxLen) (hls : ∀ l ∈ ls, l.length ≤ maxLen) (hc : ks.length ≤ maxLen) (hks : ∀ t ∈ ks, Fit t) : Fit (.mk k s n ls ks)

theorem Fit.parts {t : Ty} (h : Fit t) : t.name.length ≤ maxLen ∧ t.labels.length ≤ maxLen ∧ (∀ l ∈ t.labels, l.length ≤ maxLen) ∧ t.kids.length ≤ maxLen ∧ ∀ k ∈ t.kids, Fit k := by
 cases h with
 | mk k s n ls ks hk hs hn hl hls hc hks => exact ⟨hn, hl, hls, hc, hks⟩

set_option maxRecDepth 100000
set_option maxRecDepth 100000
section
variable {H : Type} {enc : TypeId × Value → H} {P : Program} {w : World} {base : Nat} {spare : Nat → Bool} {held : Bool}
end

section
variable {H : Type} {enc : TypeId × Value → H} {W : World}

end
end Go.Proofs.YtpidjanngbaiiaaGreatDoor
namespace Go.Proofs.YtpidjanngbaiiaaGreatDoor
open Go.RowKit Go.Proofs

set_option maxRecDepth 100000
def low (l : Str) : Bool := l.all fun b => decide (97 ≤ b.toNat) && decide (b.toNat ≤ 122)
def alphabet : Str := [97, 98, 99, 100, 101, 102, 103, 104, 105, 106, 107, 108, 109, 110, 111, 112, 113, 114, 115, 116, 117, 118, 119, 120, 121, 122]
def words : List Str := [[116, 114, 117, 101], [102, 97, 108, 115, 101], [97, 110, 100], [111, 114], [110, 111, 116]]
def small (l : Str) : Bool := low l && decide (1 ≤ l.length) && decide (l.length ≤ 8)
def isName (l : Str) : Bool := small l && !decide (l ∈ words)
theorem alphabet_has (b : UInt8) : alphabet.contains b = (decide (97 ≤ b.toNat) && decide (b.toNat ≤ 122)) := by
 have : ∀ n : Fin 256, alphabet.contains (UInt8.ofNat n.val) = (decide (97 ≤ n.val) && decide (n.val ≤ 122)) := by decide +kernel
 have h := this ⟨b.toNat, b.toNat_lt⟩
 simpa using h
theorem dw_all {p : UInt8 → Bool} : ∀ {l : Str}, (∀ b ∈ l.dropWhile p, p b = true) → ∀ b ∈ l, p b = true := by
 intro l
 induction l with
 | nil => intro _ b hb; simp at hb
 | cons x l ih =>
  intro h b hb
  by_cases hx : p x = true
  ·rw [List.dropWhile_cons, if_pos hx] at h
   rcases List.mem_cons.1 hb with rfl | hb
   ·exact hx
   ·exact ih h b hb
  ·rw [List.dropWhile_cons, if_neg hx] at h
   exact h b hb
theorem dw_nil {p : UInt8 → Bool} : ∀ {l : Str}, (∀ b ∈ l, p b = true) → l.dropWhile p = [] := by
 intro l
 induction l with
 | nil => intro _; rfl
 | cons x l ih =>
  intro h
  rw [List.dropWhile_cons, if_pos (h x (by simp))]
  exact ih fun b hb => h b (by simp [hb])
theorem trim_low (l : Str) : Lib.trimS l alphabet = [] ↔ low l = true := by
 unfold Lib.trimS Lib.trimLeftS Lib.trimRightS low
 rw [List.all_eq_true]
 have he : ∀ b, (decide (97 ≤ b.toNat) && decide (b.toNat ≤ 122)) = alphabet.contains b := fun b => (alphabet_has b).symm
 simp only [he]
 constructor
 ·intro h
  have h1 : ∀ b ∈ (l.reverse.dropWhile (alphabet.contains ·)).reverse, alphabet.contains b = true := dw_all (by rw [h]; simp)
  have h2 := dw_all (p := (alphabet.contains ·)) (l := l.reverse) fun b hb => h1 b (by simpa using hb)
  intro b hb
  exact h2 b (by simpa using hb)
 ·intro h
  have h1 : l.reverse.dropWhile (alphabet.contains ·) = [] := dw_nil fun b hb => h b (by simpa using hb)
  rw [h1]
  rfl
theorem contains_mk (zs : List Str) (x : Str) : Lib.containsS (zs.map fun s => ⟨s.toArray⟩) ⟨x.toArray⟩ = decide (x ∈ zs) := by
 rw [Bool.eq_iff_iff, Lib.containsS_iff, decide_eq_true_eq, List.mem_map]
 constructor
 ·rintro ⟨s, hs, h⟩
  rw [mk_inj] at h
  exact h ▸ hs
 ·intro h
  exact ⟨x, h, rfl⟩

theorem contains_any {w : World} {v : Value} {zs : List Str} (h : IsStrs w v zs) (hl : zs.length ≤ 9223372036854775807) (x : Str) :
  Calls Tryz.prog 62 #[v, .string ⟨x.toArray⟩] w fun e w' => e = .returned (.bool (decide (x ∈ zs))) ∧ w' = w := by
 obtain ⟨A, cap, rfl, hc, h3⟩ := h
 rcases Nat.eq_zero_or_pos zs.length with h0 | h0
 ·obtain rfl := List.eq_nil_of_length_eq_zero h0
  simpa using Tryz.slices_Contains_string_empty A cap ⟨x.toArray⟩ w
 ·obtain ⟨b, off, rfl, hr⟩ := h3 h0
  have := Tryz.slices_Contains_string b off zs.length cap (zs.map fun s => ⟨s.toArray⟩) ⟨x.toArray⟩ w (by simp) hl (by
   intro j hj
   have hj' : j < zs.length := by simpa using hj
   rw [hr j zs[j] (by simp [hj'])]
   simp [List.getD, hj'])
  rw [List.take_of_length_le (by simp), contains_mk] at this
  exact this

theorem low_drop {l : Str} {k : Nat} {x : UInt8} (h : l[k]? = some x) : low (l.drop k) = ((decide (97 ≤ x.toNat) && decide (x.toNat ≤ 122)) && low (l.drop (k + 1))) := by
 obtain ⟨h1, h2⟩ := List.getElem?_eq_some_iff.1 h
 rw [List.drop_eq_getElem_cons h1, h2]
 rfl
set_option maxHeartbeats 1000000 in
theorem small_any (l : Str) (w : World) (hl : l.length ≤ 9223372036854775807) :
  Calls Tryz.prog 63 #[.string ⟨l.toArray⟩] w fun e w' => e = .returned (.bool (small l)) ∧ w' = w := by
 obtain ⟨ANS, hA⟩ : ∃ x, small l = x := ⟨_, rfl⟩
 have HA := Lib.hid hA; rw [hA]; clear hA
 go_enter Tryz.func63, Tryz.ntmps63
 go_wp2
 go_loop [3] (fun i => ∃ k : Nat, k ≤ l.length ∧ i = .int .i64 k ∧ Hid (low l = low (l.drop k))) (fun i => l.length - (intOf i).toNat)
 case atStart => exact ⟨0, by omega, rfl, rfl⟩
 case round =>
  obtain ⟨k, hk, rfl, hf⟩ := hrel
  by_cases hlt : k < l.length
  ·obtain ⟨x, hx⟩ : ∃ x, l[k]? = some x := ⟨_, List.getElem?_eq_getElem hlt⟩
   have HX := Lib.hid hx; clear hx
   have E : ((⟨l.toArray⟩ : ByteArray)[k]'(by simpa [ByteArray.size] using hlt)).toNat = x.toNat := by rw [byte_at' HX.out]
   go_wp2_with fail
   ·go_ret
    refine ⟨ret_bool' ?_, rfl⟩
    have := hf.out
    rw [low_drop HX.out] at this
    rw [← HA.out]
    have hx : ¬ (97 ≤ x.toNat ∧ x.toNat ≤ 122) := by omega
    unfold small
    rw [this]
    by_cases h97 : 97 ≤ x.toNat
    ·have : ¬ x.toNat ≤ 122 := fun h => hx ⟨h97, h⟩
     simp [this]
    ·simp [h97]
   ·refine ⟨⟨k + 1, by omega, by simp, ?_⟩, by simp [intOf]; omega⟩
    show low l = _
    have := hf.out
    rw [low_drop HX.out] at this
    have e1 : 97 ≤ x.toNat := by omega
    have e2 : x.toNat ≤ 122 := by omega
    rw [this]
    simp [e1, e2]
   ·go_ret
    refine ⟨ret_bool' ?_, rfl⟩
    have := hf.out
    rw [low_drop HX.out] at this
    rw [← HA.out]
    have h97 : ¬ 97 ≤ x.toNat := by omega
    unfold small
    rw [this]
    simp [h97]
  ·have hk' : k = l.length := by omega
   subst hk'
   clear hlt
   have hlow : low l = true := by rw [hf.out]; simp [low]
   have HL := Lib.hid hlow; clear hlow hf
   go_wp2_with fail
   ·go_ret
    refine ⟨ret_bool' ?_, rfl⟩
    rw [← HA.out]
    unfold small
    rw [HL.out]
    have e1 : 1 ≤ l.length := by omega
    simp [e1]
    omega
   ·go_ret
    refine ⟨ret_bool' ?_, rfl⟩
    rw [← HA.out]
    unfold small
    have e1 : ¬ 1 ≤ l.length := by omega
    simp [e1]

theorem words_in (w : World) : IsStrs (w.alloc (.cells #[.string ⟨#[116, 114, 117, 101]⟩, .string ⟨#[102, 97, 108, 115, 101]⟩, .string ⟨#[97, 110, 100]⟩, .string ⟨#[111, 114]⟩, .string ⟨#[110, 111, 116]⟩] 9)) (.slice (some ⟨w.heap.size, 0, none⟩) 5 5) words := by
 refine ⟨_, 5, rfl, by decide, fun _ => ⟨w.heap.size, 0, rfl, fun i s hi => ?_⟩⟩
 match i, hi with
 | 0, hi | 1, hi | 2, hi | 3, hi | 4, hi => simp [words] at hi; subst hi; simp [go_sem]
 | i + 5, hi => simp [words] at hi

set_option maxHeartbeats 1000000 in
theorem refIsName_any (l : Str) (w : World) (hl : l.length ≤ 9223372036854775807) :
  Calls Tryz.prog 22 #[.string ⟨l.toArray⟩] w fun e w' => e = .returned (.bool (isName l)) ∧ Below w.heap.size w w' := by
 obtain ⟨ANS, hA⟩ : ∃ x, isName l = x := ⟨_, rfl⟩
 have HA := Lib.hid hA; rw [hA]; clear hA
 cases hs : small l with
 | false =>
  have HS := Lib.hid hs; clear hs
  go_enter Tryz.func22, Tryz.ntmps22
  go_wp2_with fail
  refine (small_any l _ hl).mono ?_; rw [HS.out]; rintro e w1 ⟨rfl, rfl⟩
  go_wp2_with fail
  go_ret
  exact ⟨ret_bool' (by rw [← HA.out]; simp [isName, HS.out]), by go_grown⟩
 | true =>
  have HS := Lib.hid hs; clear hs
  go_enter Tryz.func22, Tryz.ntmps22
  go_wp2_with fail
  refine (small_any l _ hl).mono ?_; rw [HS.out]; rintro e w1 ⟨rfl, rfl⟩
  go_wp2_with fail
  refine (contains_any (words_in _) (by decide) l).mono ?_; rintro e w1 ⟨rfl, rfl⟩
  go_wp2_with fail
  go_ret
  exact ⟨ret_bool' (by rw [← HA.out]; simp [isName, HS.out]), by go_grown⟩

theorem trim_any (l : Str) (w : World) (hl : l.length ≤ 9223372036854775807) :
  Calls Tryz.prog 61 #[.string ⟨l.toArray⟩, .string ⟨#[97, 98, 99, 100, 101, 102, 103, 104, 105, 106, 107, 108, 109, 110, 111, 112, 113, 114, 115, 116, 117, 118, 119, 120, 121, 122]⟩] w fun e w' => e = .returned (.string ⟨(Lib.trimS l alphabet).toArray⟩) ∧ Below w.heap.size w w' :=
 Any.strings_Trim_laid Tryz.lays160 (by kernel_rfl) ⟨l.toArray⟩ ⟨alphabet.toArray⟩ w (by rw [Lib.size_eq]; exact hl) (by decide) (ascii_of_all (by decide +kernel))
set_option maxHeartbeats 1000000 in
theorem isName_any (l : Str) (w : World) (hl : l.length ≤ 9223372036854775807) :
    Calls Tryz.prog 21 #[.string ⟨l.toArray⟩] w fun e w' => e = .returned (.bool (isName l)) ∧ Below w.heap.size w w' := by
  obtain ⟨ANS, hA⟩ : ∃ x, isName l = x := ⟨_, rfl⟩
  have HA := Lib.hid hA; rw [hA]; clear hA
  by_cases h0 : l = []
  · subst h0
    go_enter Tryz.func21, Tryz.ntmps21
    go_wp2_with fail
    go_ret
    exact ⟨ret_bool' (by rw [← HA.out]; rfl), by go_grown⟩
  · have h1 : 1 ≤ l.length := by have : l.length ≠ 0 := by simpa using h0
                                 omega
    obtain ⟨T, hT⟩ : ∃ x, Lib.trimS l alphabet = x := ⟨_, rfl⟩
    have HT := Lib.hid hT; clear hT
    by_cases hlow : low l = true
    · have hT0 : T = [] := by rw [← HT.out]; exact (trim_low l).2 hlow
      subst hT0
      have HL := Lib.hid hlow; clear hlow
      have H1 := Lib.hid h1; clear h1
      have hE : l.isEmpty = false := by simpa using h0
      go_enter Tryz.func21, Tryz.ntmps21
      go_wp2_with fail
      · refine (trim_any l _ hl).mono ?_; rw [HT.out]; rintro e w1 ⟨rfl, hb1⟩
        have h8 : decide (8 < (l.length : Int)) = false := by simp; omega
        go_wp2_with fail
        refine (contains_any (words_in _) (by decide) l).mono ?_; rintro e w1 ⟨rfl, rfl⟩
        go_wp2_with fail
        go_ret
        refine ⟨ret_bool' ?_, chain hb1 (by go_grown)⟩
        have e1 := H1.out
        have e2 : l.length ≤ 8 := by omega
        rw [← HA.out]; simp [isName, small, HL.out, e1, e2]
      · go_ret
        refine ⟨ret_bool' ?_, by go_grown⟩
        have e2 : ¬ l.length ≤ 8 := by omega
        rw [← HA.out]; simp [isName, small, e2]
    · have hT0 : T ≠ [] := by rw [← HT.out]; exact fun h => hlow ((trim_low l).1 h)
      have hT1 : T.isEmpty = false := by simpa using hT0
      have hlow' : low l = false := by simpa using hlow
      have HL := Lib.hid hlow'; clear hlow hlow' hT0
      have H1 := Lib.hid h1; clear h1
      go_enter Tryz.func21, Tryz.ntmps21
      go_wp2_with fail
      · refine (trim_any l _ hl).mono ?_; rw [HT.out]; rintro e w1 ⟨rfl, hb1⟩
        go_wp2_with fail
        go_ret
        refine ⟨ret_bool' ?_, by go_grown⟩
        rw [← HA.out]; simp [isName, small, HL.out]
      · go_ret
        refine ⟨ret_bool' ?_, by go_grown⟩
        rw [← HA.out]; simp [isName, small, HL.out]
set_option maxRecDepth 100000
end Go.Proofs.YtpidjanngbaiiaaGreatDoor
namespace Go.Proofs.YtpidjanngbaiiaaGreatDoor
open Go.RowKit Go.Proofs

def lowb (b : UInt8) : Bool := decide (97 ≤ b.toNat) && decide (b.toNat ≤ 122)
def sk (l : Str) (p : Nat) : Nat := p + ((l.drop p).takeWhile (· == 32)).length
def wd (l : Str) (p : Nat) : Str := (l.drop p).takeWhile lowb
inductive Rd (α : Type) where
 | ok (a : α) (p : Nat)
 | bad (p : Nat)
def Rd.seq {α β : Type} (r : Rd α) (f : α → Nat → Rd β) : Rd β := match r with
 | .ok a p => f a p
 | .bad q => .bad q
structure St where
 p : Nat
 bad : Option Nat
theorem tw_len (p : UInt8 → Bool) (l : Str) : (l.takeWhile p).length ≤ l.length := (List.takeWhile_sublist p).length_le
theorem sk_le {l : Str} {p : Nat} (h : p ≤ l.length) : p ≤ sk l p ∧ sk l p ≤ l.length := by
 unfold sk
 have h1 := tw_len (· == (32 : UInt8)) (l.drop p)
 rw [List.length_drop] at h1
 omega
theorem tw_skip (p : UInt8 → Bool) : ∀ l : Str, (l.drop (l.takeWhile p).length).takeWhile p = [] := by
 intro l
 induction l with
 | nil => rfl
 | cons x l ih =>
  by_cases h : p x = true
  ·simp [List.takeWhile_cons, h, ih]
  ·simp [List.takeWhile_cons, h]
theorem sk_sk (l : Str) (p : Nat) : sk l (sk l p) = sk l p := by
 have h : l.drop (sk l p) = (l.drop p).drop ((l.drop p).takeWhile (· == 32)).length := by rw [List.drop_drop]; rfl
 have h2 : sk l (sk l p) = sk l p + ((l.drop (sk l p)).takeWhile (· == 32)).length := rfl
 rw [h2, h, tw_skip]
 rfl
theorem drop_at {l : Str} {q : Nat} {x : UInt8} (h : l[q]? = some x) : l.drop q = x :: l.drop (q + 1) := by
 obtain ⟨h1, h2⟩ := List.getElem?_eq_some_iff.1 h
 rw [List.drop_eq_getElem_cons h1, h2]
def Took (l : Str) {α : Type} (p : Nat) (r : Rd α) : Prop := match r with
 | .ok _ q => p ≤ q ∧ q ≤ l.length
 | .bad q => p ≤ q ∧ q ≤ l.length
def Has {α : Type} (P : α → Prop) (r : Rd α) : Prop := match r with
 | .ok a _ => P a
 | .bad _ => True
section
variable {l : Str} {f : Nat → Rd Ty} {F : St → Ty × St}
theorem Took.mono {α : Type} {p p' : Nat} {r : Rd α} (h : Took l p r) (hp : p' ≤ p) : Took l p' r := by
 cases r with
 | ok a q => exact ⟨Nat.le_trans hp h.1, h.2⟩
 | bad q => exact ⟨Nat.le_trans hp h.1, h.2⟩
theorem Took.seq {α β : Type} {p : Nat} {r : Rd α} {g : α → Nat → Rd β} (h : Took l p r) (hg : ∀ a q, p ≤ q → q ≤ l.length → Took l q (g a q)) : Took l p (r.seq g) := by
 cases r with
 | ok a q => exact (hg a q h.1 h.2).mono h.1
 | bad q => exact h
theorem Has.seq {α β : Type} {P : α → Prop} {Q : β → Prop} {r : Rd α} {g : α → Nat → Rd β} (h : Has P r) (hg : ∀ a q, P a → Has Q (g a q)) : Has Q (r.seq g) := by
 cases r with
 | ok a q => exact hg a q h
 | bad q => trivial
theorem Has.any {α : Type} (r : Rd α) : Has (fun _ => True) r := by cases r <;> trivial

end
theorem tw_take (p : UInt8 → Bool) (l : Str) : l.take (l.length - (l.dropWhile p).length) = l.takeWhile p := by
 have h : l.takeWhile p ++ l.dropWhile p = l := List.takeWhile_append_dropWhile
 have hl := congrArg List.length h
 rw [List.length_append] at hl
 conv => lhs; arg 2; rw [← h]
 rw [show l.length - (l.dropWhile p).length = (l.takeWhile p).length by omega, List.take_left]

end Go.Proofs.YtpidjanngbaiiaaGreatDoor
namespace Go.Proofs.YtpidjanngbaiiaaGreatDoor.Yd


variable {X : Type} (un : Str → X → X) (bi : Str → X → X → X)

inductive Opd (X : Type) where
 | bad (e : Int) (at_ : Nat)
 | leaf (x : X) (q : Nat)
 | pre (u : Str) (q : Nat)
 | par (q : Nat)
inductive Res (X : Type) where
 | ok (x : X) (q : Nat)
 | err (e : Int) (at_ : Nat)
inductive Op where
 | bi (o : Str) (k : Nat)
 | un (u : Str)
 | br
def Op.tight : Op → Nat
 | .bi _ k => k
 | .un _ => 9
 | .br => 0
variable (opd : Nat → Opd X) (bin : Nat → Option (Str × Nat × Nat)) (close : Nat → Option Nat) (sk : Nat → Nat)

def red1 : Op → List X → List X
 | .bi o _, y :: x :: r => bi o x y :: r
 | .un u, x :: r => un u x :: r
 | _, r => r
def redW (k : Nat) : List Op → List X → List Op × List X
 | [], v => ([], v)
 | o :: r, v => if k ≤ o.tight then redW k r (red1 un bi o v) else (o :: r, v)
def redB : List Op → List X → List Op × List X
 | [], v => ([], v)
 | .br :: r, v => (r, v)
 | o :: r, v => redB r (red1 un bi o v)
def redA : List Op → List X → List X
 | [], v => v
 | o :: r, v => redA r (red1 un bi o v)

inductive YR : List Op → List X → Nat → Bool → Nat → Res X → Prop where
 | bad {ops vals n p e a} (h : opd p = .bad e a) : YR ops vals n true p (.err e a)
 | leaf {ops vals n p x q r} (h : opd p = .leaf x q) (y : YR ops (x :: vals) n false q r) : YR ops vals n true p r
 | pre {ops vals n p u q r} (h : opd p = .pre u q) (y : YR (.un u :: ops) vals n true q r) : YR ops vals n true p r
 | par {ops vals n p q r} (h : opd p = .par q) (y : YR (.br :: ops) vals (n + 1) true q r) : YR ops vals n true p r
 | bin {ops vals n p o k q r} (h : bin p = some (o, k, q)) (y : YR (.bi o k :: (redW un bi k ops vals).1) (redW un bi k ops vals).2 n true q r) : YR ops vals n false p r
 | close {ops vals n p q r} (h : bin p = none) (hc : close p = some q) (y : YR (redB un bi ops vals).1 (redB un bi ops vals).2 n false q r) : YR ops vals (n + 1) false p r
 | open_ {ops vals n p} (h : bin p = none) (hc : close p = none) : YR ops vals (n + 1) false p (.err 3 (sk p))
 | end_ {ops vals p x} (h : bin p = none) (hx : (redA un bi ops vals).head? = some x) : YR ops vals 0 false p (.ok x (sk p))

/- The program. -/
mutual
def one : Nat → Nat → Option (Res X)
 | 0, _ => none
 | f + 1, p => match opd p with
  | .bad e a => some (.err e a)
  | .leaf x q => some (.ok x q)
  | .pre u q => match one f q with
   | some (.ok x q') => some (.ok (un u x) q')
   | r => r
  | .par q => match all f 1 q with
   | some (.ok x q') => match close q' with
    | some q'' => some (.ok x q'')
    | none => some (.err 3 (sk q'))
   | r => r
def all : Nat → Nat → Nat → Option (Res X)
 | 0, _, _ => none
 | f + 1, t, p => match one f p with
  | some (.ok x q) => loop f t x q
  | r => r
def loop : Nat → Nat → X → Nat → Option (Res X)
 | 0, _, _, _ => none
 | f + 1, t, x, q => match bin q with
  | none => some (.ok x q)
  | some (o, k, q1) => if k < t then some (.ok x q) else
   match all f (k + 1) q1 with
   | some (.ok y q2) => loop f t (bi o x y) q2
   | r => r
end

def Less (t : Nat) : List Op → Prop
 | [] => True
 | o :: _ => o.tight < t
def Stops (t : Nat) (q : Nat) : Prop := ∀ o k q', bin q = some (o, k, q') → k < t

theorem redW_less {t k : Nat} {ops : List Op} {v : List X} (h : Less t ops) (hk : t ≤ k) : redW un bi k ops v = (ops, v) := by
 cases ops with
 | nil => rfl
 | cons o r =>
  unfold Less at h
  unfold redW
  rw [if_neg (by omega)]

variable {un bi opd bin close sk}
theorem un_pending {u : Str} {x : X} {ops : List Op} {vals : List X} {n q : Nat} {r : Res X} (hb : ∀ o k q', bin q = some (o, k, q') → k ≤ 9)
  (y : YR un bi opd bin close sk ops (un u x :: vals) n false q r) : YR un bi opd bin close sk (.un u :: ops) (x :: vals) n false q r := by
 cases y with
 | bin h y =>
  rename_i o k q'
  refine .bin h ?_
  have : redW un bi k (.un u :: ops) (x :: vals) = redW un bi k ops (un u x :: vals) := by
   rw [redW, if_pos (show k ≤ (Op.un u).tight from hb _ _ _ h)]; rfl
  rw [this]
  exact y
 | close h hc y => exact .close h hc y
 | open_ h hc => exact .open_ h hc
 | end_ h hx => exact .end_ h hx
theorem bi_pending {o : Str} {k : Nat} {x y : X} {ops : List Op} {vals : List X} {n q : Nat} {r : Res X} (hs : Stops bin (k + 1) q)
  (h' : YR un bi opd bin close sk ops (bi o x y :: vals) n false q r) : YR un bi opd bin close sk (.bi o k :: ops) (y :: x :: vals) n false q r := by
 cases h' with
 | bin h y' =>
  rename_i o' k' q'
  refine .bin h ?_
  have hk := hs _ _ _ h
  have : redW un bi k' (.bi o k :: ops) (y :: x :: vals) = redW un bi k' ops (bi o x y :: vals) := by
   rw [redW, if_pos (show k' ≤ (Op.bi o k).tight by show k' ≤ k; omega)]; rfl
  rw [this]
  exact y'
 | close h hc y' => exact .close h hc y'
 | open_ h hc => exact .open_ h hc
 | end_ h hx => exact .end_ h hx

def OneSays (un : Str → X → X) (bi : Str → X → X → X) (opd : Nat → Opd X) (bin : Nat → Option (Str × Nat × Nat)) (close : Nat → Option Nat) (sk : Nat → Nat) (p : Nat) (r : Res X) : Prop :=
 (∀ e a, r = .err e a → ∀ ops vals n, YR un bi opd bin close sk ops vals n true p (.err e a)) ∧
 (∀ x q, r = .ok x q → ∀ ops vals n r', YR un bi opd bin close sk ops (x :: vals) n false q r' → YR un bi opd bin close sk ops vals n true p r')
def AllSays (un : Str → X → X) (bi : Str → X → X → X) (opd : Nat → Opd X) (bin : Nat → Option (Str × Nat × Nat)) (close : Nat → Option Nat) (sk : Nat → Nat) (t p : Nat) (r : Res X) : Prop :=
 (∀ e a, r = .err e a → ∀ ops vals n, Less t ops → YR un bi opd bin close sk ops vals n true p (.err e a)) ∧
 (∀ x q, r = .ok x q → Stops bin t q ∧ ∀ ops vals n r', Less t ops → YR un bi opd bin close sk ops (x :: vals) n false q r' → YR un bi opd bin close sk ops vals n true p r')
def LoopSays (un : Str → X → X) (bi : Str → X → X → X) (opd : Nat → Opd X) (bin : Nat → Option (Str × Nat × Nat)) (close : Nat → Option Nat) (sk : Nat → Nat) (t : Nat) (x0 : X) (p : Nat) (r : Res X) : Prop :=
 (∀ e a, r = .err e a → ∀ ops vals n, Less t ops → YR un bi opd bin close sk ops (x0 :: vals) n false p (.err e a)) ∧
 (∀ x q, r = .ok x q → Stops bin t q ∧ ∀ ops vals n r', Less t ops → YR un bi opd bin close sk ops (x :: vals) n false q r' → YR un bi opd bin close sk ops (x0 :: vals) n false p r')

theorem finds (hb : ∀ q o k q', bin q = some (o, k, q') → 1 ≤ k ∧ k ≤ 9) : ∀ (f : Nat),
  (∀ p r, one un bi opd bin close sk f p = some r → OneSays un bi opd bin close sk p r) ∧
  (∀ t p r, 1 ≤ t → all un bi opd bin close sk f t p = some r → AllSays un bi opd bin close sk t p r) ∧
  (∀ t x p r, 1 ≤ t → loop un bi opd bin close sk f t x p = some r → LoopSays un bi opd bin close sk t x p r) := by
 intro f
 induction f with
 | zero => exact ⟨fun p r h => by simp [one] at h, fun t p r _ h => by simp [all] at h, fun t x p r _ h => by simp [loop] at h⟩
 | succ f ih =>
  obtain ⟨ih1, ih2, ih3⟩ := ih
  refine ⟨fun p r h => ?_, fun t p r ht h => ?_, fun t x p r ht h => ?_⟩
  ·rw [one] at h
   cases ho : opd p with
   | bad e a =>
    rw [ho] at h
    obtain rfl := Option.some.inj h
    refine ⟨fun e' a' he ops vals n => ?_, fun x q hx => by cases hx⟩
    cases he
    exact .bad ho
   | leaf x q =>
    rw [ho] at h
    obtain rfl := Option.some.inj h
    refine ⟨fun e' a' he => (by cases he), fun x' q' hx ops vals n r' y => ?_⟩
    cases hx
    exact .leaf ho y
   | pre u q =>
    rw [ho] at h
    simp only at h
    cases h1 : one un bi opd bin close sk f q with
    | none => rw [h1] at h; cases h
    | some r1 =>
     rw [h1] at h
     have hs := ih1 q r1 h1
     cases r1 with
     | err e a =>
      obtain rfl := Option.some.inj h
      refine ⟨fun e' a' he ops vals n => ?_, fun x q hx => by cases hx⟩
      exact .pre ho (hs.1 e' a' he _ _ _)
     | ok x q' =>
      obtain rfl := Option.some.inj h
      refine ⟨fun e' a' he => (by cases he), fun x' q'' hx ops vals n r' y => ?_⟩
      cases hx
      exact .pre ho (hs.2 x q' rfl _ _ _ _ (un_pending (fun o k q2 hq => (hb _ _ _ _ hq).2) y))
   | par q =>
    rw [ho] at h
    simp only at h
    cases h1 : all un bi opd bin close sk f 1 q with
    | none => rw [h1] at h; cases h
    | some r1 =>
     rw [h1] at h
     have hs := ih2 1 q r1 (Nat.le_refl _) h1
     cases r1 with
     | err e a =>
      obtain rfl := Option.some.inj h
      refine ⟨fun e' a' he ops vals n => ?_, fun x q hx => by cases hx⟩
      exact .par ho (hs.1 e' a' he _ _ _ (by show 0 < 1; omega))
     | ok x q' =>
      obtain ⟨hst, hy⟩ := hs.2 x q' rfl
      have hnb : bin q' = none := by
       cases hbq : bin q' with
       | none => rfl
       | some v => obtain ⟨o, k, q2⟩ := v; have := hst _ _ _ hbq; have := (hb _ _ _ _ hbq).1; omega
      simp only at h
      cases hcl : close q' with
      | none =>
       rw [hcl] at h
       obtain rfl := Option.some.inj h
       refine ⟨fun e' a' he ops vals n => ?_, fun x q hx => by cases hx⟩
       cases he
       exact .par ho (hy _ _ _ _ (by show 0 < 1; omega) (.open_ hnb hcl))
      | some q'' =>
       rw [hcl] at h
       obtain rfl := Option.some.inj h
       refine ⟨fun e' a' he => (by cases he), fun x' q3 hx ops vals n r' y => ?_⟩
       cases hx
       exact .par ho (hy _ _ _ _ (by show 0 < 1; omega) (.close hnb hcl y))
  ·rw [all] at h
   cases h1 : one un bi opd bin close sk f p with
   | none => rw [h1] at h; cases h
   | some r1 =>
    rw [h1] at h
    have hs := ih1 p r1 h1
    cases r1 with
    | err e a =>
     obtain rfl := Option.some.inj h
     exact ⟨fun e' a' he ops vals n _ => hs.1 e' a' he _ _ _, fun x q hx => by cases hx⟩
    | ok x q =>
     have hl := ih3 t x q r ht h
     refine ⟨fun e a he ops vals n hle => hs.2 x q rfl _ _ _ _ (hl.1 e a he _ _ _ hle), fun x' q' hx => ⟨(hl.2 x' q' hx).1, fun ops vals n r' hle y => hs.2 x q rfl _ _ _ _ ((hl.2 x' q' hx).2 _ _ _ _ hle y)⟩⟩
  ·rw [loop] at h
   cases hbq : bin p with
   | none =>
    rw [hbq] at h
    obtain rfl := Option.some.inj h
    refine ⟨fun e a he => by (cases he), fun x' q' hx => ?_⟩
    cases hx
    exact ⟨fun o k q' hq => by (rw [hbq] at hq; cases hq), fun ops vals n r' _ y => y⟩
   | some v =>
    obtain ⟨o, k, q1⟩ := v
    rw [hbq] at h
    simp only at h
    by_cases hkt : k < t
    ·rw [if_pos hkt] at h
     obtain rfl := Option.some.inj h
     refine ⟨fun e a he => by (cases he), fun x' q' hx => ?_⟩
     cases hx
     refine ⟨fun o' k' q' hq => ?_, fun ops vals n r' _ y => y⟩
     rw [hbq] at hq
     cases hq
     exact hkt
    ·rw [if_neg hkt] at h
     cases h1 : all un bi opd bin close sk f (k + 1) q1 with
     | none => rw [h1] at h; cases h
     | some r1 =>
      rw [h1] at h
      have hs := ih2 (k + 1) q1 r1 (by omega) h1
      have step : ∀ ops vals n r', Less t ops → YR un bi opd bin close sk (.bi o k :: ops) (x :: vals) n true q1 r' → YR un bi opd bin close sk ops (x :: vals) n false p r' := by
       intro ops vals n r' hle y
       refine .bin hbq ?_
       rw [redW_less un bi hle (by omega)]
       exact y
      cases r1 with
      | err e a =>
       obtain rfl := Option.some.inj h
       exact ⟨fun e' a' he ops vals n hle => step _ _ _ _ hle (hs.1 e' a' he _ _ _ (by show k < k + 1; omega)), fun x q hx => by cases hx⟩
      | ok y q2 =>
       obtain ⟨hst, hy⟩ := hs.2 y q2 rfl
       have hl := ih3 t (bi o x y) q2 r ht h
       refine ⟨fun e a he ops vals n hle => step _ _ _ _ hle (hy _ _ _ _ (by show k < k + 1; omega) (bi_pending hst (hl.1 e a he _ _ _ hle))), fun x' q' hx => ⟨(hl.2 x' q' hx).1, fun ops vals n r' hle z => step _ _ _ _ hle (hy _ _ _ _ (by show k < k + 1; omega) (bi_pending hst ((hl.2 x' q' hx).2 _ _ _ _ hle z)))⟩⟩
theorem whole (hb : ∀ q o k q', bin q = some (o, k, q') → 1 ≤ k ∧ k ≤ 9) {f p : Nat} {r : Res X} (h : all un bi opd bin close sk f 1 p = some r) :
  YR un bi opd bin close sk [] [] 0 true p (match r with | .ok x q => .ok x (sk q) | r => r) := by
 have hs := (finds hb f).2.1 1 p r (Nat.le_refl _) h
 cases r with
 | err e a => exact hs.1 e a rfl _ _ _ trivial
 | ok x q =>
  obtain ⟨hst, hy⟩ := hs.2 x q rfl
  refine hy _ _ _ _ trivial (.end_ ?_ rfl)
  cases hbq : bin q with
  | none => rfl
  | some v => obtain ⟨o, k, q2⟩ := v; have := hst _ _ _ hbq; have := (hb _ _ _ _ hbq).1; omega
end Go.Proofs.YtpidjanngbaiiaaGreatDoor.Yd
