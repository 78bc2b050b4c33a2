/-
  Rows of memory that a call owns: one bundle for a slice type's closed facts (RowType), and append onto an owned row stated with 'Below' (everything that was there before the call stays).
-/
import Derived.Test.YtcacembpegoghaaDoorBase
import Derived.Maps.AppendAt
import Derived.Deep.AppendLies
namespace Go.Proofs.YtcacembpegoghaaDoor
open Go.RowKit Go.Proofs

/-- The closed facts of a slice type T with elements E of 'size' cells and 'bytes' bytes. -/
structure RowType (P : Program) (T E : TypeId) (size bytes : Nat) : Prop where
  ht : P.underlying T = some (.slice E)
  ex : ∃ (i : TypeInfo) (z : Value), P.info? E = some i ∧ i.zero = some z ∧ i.size = size ∧ i.bytes = bytes ∧ z.cells.size = size
  pos : 0 < size

theorem RowType.mk' {P : Program} {T E : TypeId} {size bytes : Nat} {z : Value} (ht : P.underlying T = some (.slice E)) (h : (P.info? E).map (fun i => (i.zero, i.size, i.bytes)) = some (some z, size, bytes)) (hz : z.cells.size = size) (hp : 0 < size) : RowType P T E size bytes := by
  obtain ⟨i, h1, h2, h3, h4⟩ := info_parts h
  exact ⟨ht, ⟨i, z, h1, h2, h3, h4, hz⟩, hp⟩

section
variable {P : Program} {ops : Array Oper} {rest : List Oper} {o : Oper} {a : Act} {Q : Exit → Act → World → Prop} {w : World}

/-- append onto an owned row, of m elements that lie at ad: both facts on where the new row lies. -/
theorem wpList_app {T E : TypeId} {size bytes : Nat} (R : RowType P T E size bytes) (hgd : o.guard = none) (s x : Operand)
    (ho : o.op = .call { callee := .builtin .append, args := #[s, x], argTypes := #[T, T] })
    (base : Nat) (v : Value) (n : Nat) (xs : List Value) (hs : a.eval s = v) (hown : w.ownsRow base E size v n xs)
    (ad : Addr) (m c : Nat) (news : List Value) (hx : a.eval x = .slice (some ad) m c) (hl : news.length = m * size) (hnews : ∀ j u, news[j]? = some u → w.cell? (ad.add j) = some u) (h1 : ∀ u ∈ news, u.oneCell' = true)
    (h63 : n + m ≤ maxLen) (hbytes : (n + m) * bytes ≤ 140737488355328) (hbase : base ≤ w.heap.size)
    (h : ∀ v' w', w'.ownsRow base E size v' (n + m) (xs ++ news) → w.grownBy w' v.ownBlock → (v'.ownBlock = v.ownBlock ∨ v'.ownBlock = some w.heap.size) → Below base w w' → wpList P ops Q rest (a.put o.dst v') w') : wpList P ops Q (o :: rest) a w := by
  obtain ⟨i, z, hi, hz, hsize, hby, hzs⟩ := R.ex
  refine wpList_append_own_at w hgd s x T ho base E i z size bytes R.ht hi hz hsize hby hzs R.pos v n xs hs hown ad m c news hx hl hnews h1 h63 hbytes hbase ?_
  intro v' w' h2 h3 _ h5
  refine h v' w' h2 h3 h5 ?_
  exact (Below.refl _ _).grown h3 hbase (fun k hk => (hown.lt k hk).1)

/-- append of ONE element of one cell, laid by the statement itself into the newest block. -/
theorem wpList_app1 {T E : TypeId} {bytes : Nat} (R : RowType P T E 1 bytes) (w : World) (u : Value) (hgd : o.guard = none) (s x : Operand)
    (ho : o.op = .call { callee := .builtin .append, args := #[s, x], argTypes := #[T, T] })
    (base : Nat) (v : Value) (n : Nat) (xs : List Value) (hs : a.eval s = v) (hown : w.ownsRow base E 1 v n xs)
    (hx : a.eval x = .slice (some ⟨w.heap.size, 0, none⟩) 1 1) (h1 : u.oneCell' = true)
    (hbytes : (n + 1) * bytes ≤ 140737488355328) (h63 : n + 1 ≤ 4611686018427387904) (hbase : base ≤ w.heap.size)
    (h : ∀ v' w', w'.ownsRow base E 1 v' (n + 1) (xs ++ [u]) → (w.alloc (.cells #[u] E)).grownBy w' v.ownBlock → (v'.ownBlock = v.ownBlock ∨ v'.ownBlock = some (w.heap.size + 1)) → Below base w w' → wpList P ops Q rest (a.put o.dst v') w') : wpList P ops Q (o :: rest) a (w.alloc (.cells #[u] E)) := by
  refine wpList_app R hgd s x ho base v n xs hs (hown.alloc _) ⟨w.heap.size, 0, none⟩ 1 1 [u] hx rfl (cell_one_new _ _ _) (by simpa using h1) (by unfold maxLen; omega) hbytes (by simp; omega) ?_
  intro v' w' h2 h3 h4 h5
  exact h v' w' h2 h3 (by simpa using h4) (((Below.refl _ _).alloc hbase _).trans h5)
end

theorem rt_runes : RowType Tryd.prog 110 21 1 4 := .mk' (z := .int .i32 0) Tryd.underlying110 (by kernel_rfl) rfl (by decide)
theorem rt_strs : RowType Tryd.prog 39 9 1 16 := .mk' (z := .string ⟨#[]⟩) Tryd.underlying39 (by kernel_rfl) rfl (by decide)
theorem rt_bytes : RowType Tryd.prog 160 5 1 1 := .mk' (z := .int .u8 0) Tryd.underlying160 (by kernel_rfl) rfl (by decide)
theorem rt_ints : RowType Tryd.prog 87 3 1 8 := .mk' (z := .int .i64 0) Tryd.underlying87 (by kernel_rfl) rfl (by decide)
end Go.Proofs.YtcacembpegoghaaDoor
