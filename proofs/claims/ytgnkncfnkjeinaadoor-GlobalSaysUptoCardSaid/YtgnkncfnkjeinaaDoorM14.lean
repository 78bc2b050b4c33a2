/-
  What the walks of both readers of conversations share: how an answer is laid into its box.
  As Held, for an operation that the tail waits for through others.
  Labels and kids of a choice while it is being read: two rows of the call's own, for conversations.
  Boxes and rows: what several walks share.
-/
import Derived.Test.YtgnkncfnkjeinaaDoorM11
import Derived.Test.YtgnkncfnkjeinaaDoorM13
import Derived.Test.YtgnkncfnkjeinaaDoorM8
import Derived.Laws.OwnMore
import Derived.Test.YtgnkncfnkjeinaaDoorM6
namespace Go.Proofs.YtgnkncfnkjeinaaDoor
open Go.RowKit Go.Proofs

set_option maxRecDepth 100000
/-- What a reading answers in the program: the conversation and the rest behind it, or what is thrown. -/
def GAns (w : World) (b : Nat) (l : Str) (r : Rd Gl) (e : Ending) (w' : World) : Prop := w.grownBy w' (some b) ∧ match r with
  | .ok t q => ∃ v, e = .returned v ∧ GlV (fun k => w.heap.size ≤ k) w' v t ∧ RBox w' b l q
  | .bad q => e = .panicked (gthrown q)
/-- What the reference's reader answers. -/
def GAnsR (w : World) (b : Nat) (l : Str) (r : Gl × St) (e : Ending) (w' : World) : Prop := w.grownBy w' (some b) ∧ ∃ v, e = .returned v ∧ GlV (fun k => w.heap.size ≤ k) w' v r.1 ∧ SBox w' b l r.2
theorem GBox.grown' {w w' : World} {b p : Nat} {t : Gl} {lv kv : Value} (h : GBox w b t lv kv) (hg : w.grownBy w' (some p)) (hb : b ≠ p) : GBox w' b t lv kv := h.grown hg (fun e => hb (by injection e))
/-- The answer is written into its box. -/
theorem gfinish {w w2 : World} {b X : Nat} {l : Str} {q : Nat} {t0 : Gl} {lv0 kv0 : Value} (hb : b < w.heap.size) (hX : w.heap.size ≤ X) (hg : w.grownBy w2 (some b)) (hR : RBox w2 b l q) (XB : GBox w2 X t0 lv0 kv0) (k : Int) (f o : Str) (s : Int) (n : Str) (ls : List Str) (ks : List Gl) (lv kv : Value)
    (h1 : StrsD (fun k => w.heap.size ≤ k ∧ k ≠ X) w2 lv ls) (h2 : Gls (fun k => w.heap.size ≤ k ∧ k ≠ X) w2 kv ks) :
    GBox (((((((w2.setCell ⟨X, 0, none⟩ (.int .i64 k)).setCell ⟨X, 1, none⟩ (.string ⟨f.toArray⟩)).setCell ⟨X, 2, none⟩ (.string ⟨o.toArray⟩)).setCell ⟨X, 3, none⟩ (.int .i64 s)).setCell ⟨X, 4, none⟩ (.string ⟨n.toArray⟩)).setCell ⟨X, 5, none⟩ lv).setCell ⟨X, 6, none⟩ kv) X (.mk k f o s n ls ks) lv kv ∧ w.grownBy (((((((w2.setCell ⟨X, 0, none⟩ (.int .i64 k)).setCell ⟨X, 1, none⟩ (.string ⟨f.toArray⟩)).setCell ⟨X, 2, none⟩ (.string ⟨o.toArray⟩)).setCell ⟨X, 3, none⟩ (.int .i64 s)).setCell ⟨X, 4, none⟩ (.string ⟨n.toArray⟩)).setCell ⟨X, 5, none⟩ lv).setCell ⟨X, 6, none⟩ kv) (some b) ∧ RBox (((((((w2.setCell ⟨X, 0, none⟩ (.int .i64 k)).setCell ⟨X, 1, none⟩ (.string ⟨f.toArray⟩)).setCell ⟨X, 2, none⟩ (.string ⟨o.toArray⟩)).setCell ⟨X, 3, none⟩ (.int .i64 s)).setCell ⟨X, 4, none⟩ (.string ⟨n.toArray⟩)).setCell ⟨X, 5, none⟩ lv).setCell ⟨X, 6, none⟩ kv) b l q ∧ GlV (fun k => w.heap.size ≤ k) (((((((w2.setCell ⟨X, 0, none⟩ (.int .i64 k)).setCell ⟨X, 1, none⟩ (.string ⟨f.toArray⟩)).setCell ⟨X, 2, none⟩ (.string ⟨o.toArray⟩)).setCell ⟨X, 3, none⟩ (.int .i64 s)).setCell ⟨X, 4, none⟩ (.string ⟨n.toArray⟩)).setCell ⟨X, 5, none⟩ lv).setCell ⟨X, 6, none⟩ kv) (.agg #[.int .i64 k, .string ⟨f.toArray⟩, .string ⟨o.toArray⟩, .int .i64 s, .string ⟨n.toArray⟩, lv, kv]) (.mk k f o s n ls ks) := by
  have hne : X ≠ b := by omega
  have hs : Same (fun k => w.heap.size ≤ k ∧ k ≠ X) w2 (((((((w2.setCell ⟨X, 0, none⟩ (.int .i64 k)).setCell ⟨X, 1, none⟩ (.string ⟨f.toArray⟩)).setCell ⟨X, 2, none⟩ (.string ⟨o.toArray⟩)).setCell ⟨X, 3, none⟩ (.int .i64 s)).setCell ⟨X, 4, none⟩ (.string ⟨n.toArray⟩)).setCell ⟨X, 5, none⟩ lv).setCell ⟨X, 6, none⟩ kv) := Same.fill7 (fun h => h.2 rfl) _ _ _ _ _ _ _
  refine ⟨XB.fill (.mk k f o s n ls ks) lv kv, grown_in (grown_in (grown_in (grown_in (grown_in (grown_in (grown_in hg hX _) hX _) hX _) hX _) hX _) hX _) hX _, ((((((hR.far hne _).far hne _).far hne _).far hne _).far hne _).far hne _).far hne _, ?_⟩
  exact ⟨lv, kv, rfl, h1.keep hs (fun _ h _ => h.1), h2.keep hs (fun _ h _ => h.1)⟩
theorem gfinishS {w w2 : World} {b X : Nat} {l : Str} {q : St} {t0 : Gl} {lv0 kv0 : Value} (hb : b < w.heap.size) (hX : w.heap.size ≤ X) (hg : w.grownBy w2 (some b)) (hR : SBox w2 b l q) (XB : GBox w2 X t0 lv0 kv0) (k : Int) (f o : Str) (s : Int) (n : Str) (ls : List Str) (ks : List Gl) (lv kv : Value)
    (h1 : StrsD (fun k => w.heap.size ≤ k ∧ k ≠ X) w2 lv ls) (h2 : Gls (fun k => w.heap.size ≤ k ∧ k ≠ X) w2 kv ks) :
    GBox (((((((w2.setCell ⟨X, 0, none⟩ (.int .i64 k)).setCell ⟨X, 1, none⟩ (.string ⟨f.toArray⟩)).setCell ⟨X, 2, none⟩ (.string ⟨o.toArray⟩)).setCell ⟨X, 3, none⟩ (.int .i64 s)).setCell ⟨X, 4, none⟩ (.string ⟨n.toArray⟩)).setCell ⟨X, 5, none⟩ lv).setCell ⟨X, 6, none⟩ kv) X (.mk k f o s n ls ks) lv kv ∧ w.grownBy (((((((w2.setCell ⟨X, 0, none⟩ (.int .i64 k)).setCell ⟨X, 1, none⟩ (.string ⟨f.toArray⟩)).setCell ⟨X, 2, none⟩ (.string ⟨o.toArray⟩)).setCell ⟨X, 3, none⟩ (.int .i64 s)).setCell ⟨X, 4, none⟩ (.string ⟨n.toArray⟩)).setCell ⟨X, 5, none⟩ lv).setCell ⟨X, 6, none⟩ kv) (some b) ∧ SBox (((((((w2.setCell ⟨X, 0, none⟩ (.int .i64 k)).setCell ⟨X, 1, none⟩ (.string ⟨f.toArray⟩)).setCell ⟨X, 2, none⟩ (.string ⟨o.toArray⟩)).setCell ⟨X, 3, none⟩ (.int .i64 s)).setCell ⟨X, 4, none⟩ (.string ⟨n.toArray⟩)).setCell ⟨X, 5, none⟩ lv).setCell ⟨X, 6, none⟩ kv) b l q ∧ GlV (fun k => w.heap.size ≤ k) (((((((w2.setCell ⟨X, 0, none⟩ (.int .i64 k)).setCell ⟨X, 1, none⟩ (.string ⟨f.toArray⟩)).setCell ⟨X, 2, none⟩ (.string ⟨o.toArray⟩)).setCell ⟨X, 3, none⟩ (.int .i64 s)).setCell ⟨X, 4, none⟩ (.string ⟨n.toArray⟩)).setCell ⟨X, 5, none⟩ lv).setCell ⟨X, 6, none⟩ kv) (.agg #[.int .i64 k, .string ⟨f.toArray⟩, .string ⟨o.toArray⟩, .int .i64 s, .string ⟨n.toArray⟩, lv, kv]) (.mk k f o s n ls ks) := by
  have hne : X ≠ b := by omega
  have hs : Same (fun k => w.heap.size ≤ k ∧ k ≠ X) w2 (((((((w2.setCell ⟨X, 0, none⟩ (.int .i64 k)).setCell ⟨X, 1, none⟩ (.string ⟨f.toArray⟩)).setCell ⟨X, 2, none⟩ (.string ⟨o.toArray⟩)).setCell ⟨X, 3, none⟩ (.int .i64 s)).setCell ⟨X, 4, none⟩ (.string ⟨n.toArray⟩)).setCell ⟨X, 5, none⟩ lv).setCell ⟨X, 6, none⟩ kv) := Same.fill7 (fun h => h.2 rfl) _ _ _ _ _ _ _
  refine ⟨XB.fill (.mk k f o s n ls ks) lv kv, grown_in (grown_in (grown_in (grown_in (grown_in (grown_in (grown_in hg hX _) hX _) hX _) hX _) hX _) hX _) hX _, ((((((hR.far hne _).far hne _).far hne _).far hne _).far hne _).far hne _).far hne _, ?_⟩
  exact ⟨lv, kv, rfl, h1.keep hs (fun _ h _ => h.1), h2.keep hs (fun _ h _ => h.1)⟩
theorem gfinishKS {w w7 : World} {b X m : Nat} {l : Str} {q : St} {t0 : Gl} {lv0 kv0 : Value} (hb : b < w.heap.size) (hX : w.heap.size ≤ X) (hXm : X < m) (hm : m ≤ w7.heap.size) (hg : w.grownBy w7 (some b)) (hR : SBox w7 b l q) (XB : GBox w7 X t0 lv0 kv0) (k : Int) (f o : Str) (s : Int) (n : Str) (xs : List Value) (ts : List Gl) (hc : Cells7 (fun k => m ≤ k) w7 xs ts) (E : TypeId) :
    GBox ((((((((w7.setCell ⟨X, 0, none⟩ (.int .i64 k)).setCell ⟨X, 1, none⟩ (.string ⟨f.toArray⟩)).setCell ⟨X, 2, none⟩ (.string ⟨o.toArray⟩)).setCell ⟨X, 3, none⟩ (.int .i64 s)).setCell ⟨X, 4, none⟩ (.string ⟨n.toArray⟩)).setCell ⟨X, 5, none⟩ (.slice none 0 0)).setCell ⟨X, 6, none⟩ (.slice (some ⟨w7.heap.size, 0, none⟩) ts.length ts.length)).alloc (.cells xs.toArray E)) X (.mk k f o s n [] ts) (.slice none 0 0) (.slice (some ⟨w7.heap.size, 0, none⟩) ts.length ts.length) ∧ w.grownBy ((((((((w7.setCell ⟨X, 0, none⟩ (.int .i64 k)).setCell ⟨X, 1, none⟩ (.string ⟨f.toArray⟩)).setCell ⟨X, 2, none⟩ (.string ⟨o.toArray⟩)).setCell ⟨X, 3, none⟩ (.int .i64 s)).setCell ⟨X, 4, none⟩ (.string ⟨n.toArray⟩)).setCell ⟨X, 5, none⟩ (.slice none 0 0)).setCell ⟨X, 6, none⟩ (.slice (some ⟨w7.heap.size, 0, none⟩) ts.length ts.length)).alloc (.cells xs.toArray E)) (some b) ∧ SBox ((((((((w7.setCell ⟨X, 0, none⟩ (.int .i64 k)).setCell ⟨X, 1, none⟩ (.string ⟨f.toArray⟩)).setCell ⟨X, 2, none⟩ (.string ⟨o.toArray⟩)).setCell ⟨X, 3, none⟩ (.int .i64 s)).setCell ⟨X, 4, none⟩ (.string ⟨n.toArray⟩)).setCell ⟨X, 5, none⟩ (.slice none 0 0)).setCell ⟨X, 6, none⟩ (.slice (some ⟨w7.heap.size, 0, none⟩) ts.length ts.length)).alloc (.cells xs.toArray E)) b l q ∧
      GlV (fun k => w.heap.size ≤ k) ((((((((w7.setCell ⟨X, 0, none⟩ (.int .i64 k)).setCell ⟨X, 1, none⟩ (.string ⟨f.toArray⟩)).setCell ⟨X, 2, none⟩ (.string ⟨o.toArray⟩)).setCell ⟨X, 3, none⟩ (.int .i64 s)).setCell ⟨X, 4, none⟩ (.string ⟨n.toArray⟩)).setCell ⟨X, 5, none⟩ (.slice none 0 0)).setCell ⟨X, 6, none⟩ (.slice (some ⟨w7.heap.size, 0, none⟩) ts.length ts.length)).alloc (.cells xs.toArray E)) (.agg #[.int .i64 k, .string ⟨f.toArray⟩, .string ⟨o.toArray⟩, .int .i64 s, .string ⟨n.toArray⟩, .slice none 0 0, .slice (some ⟨w7.heap.size, 0, none⟩) ts.length ts.length]) (.mk k f o s n [] ts) := by
  have hne : X ≠ b := by omega
  have hs : Same (fun k => m ≤ k) w7 (((((((w7.setCell ⟨X, 0, none⟩ (.int .i64 k)).setCell ⟨X, 1, none⟩ (.string ⟨f.toArray⟩)).setCell ⟨X, 2, none⟩ (.string ⟨o.toArray⟩)).setCell ⟨X, 3, none⟩ (.int .i64 s)).setCell ⟨X, 4, none⟩ (.string ⟨n.toArray⟩)).setCell ⟨X, 5, none⟩ (.slice none 0 0)).setCell ⟨X, 6, none⟩ (.slice (some ⟨w7.heap.size, 0, none⟩) ts.length ts.length)) := Same.fill7 (by omega) _ _ _ _ _ _ _
  have hz : ((((((((w7.setCell ⟨X, 0, none⟩ (.int .i64 k)).setCell ⟨X, 1, none⟩ (.string ⟨f.toArray⟩)).setCell ⟨X, 2, none⟩ (.string ⟨o.toArray⟩)).setCell ⟨X, 3, none⟩ (.int .i64 s)).setCell ⟨X, 4, none⟩ (.string ⟨n.toArray⟩)).setCell ⟨X, 5, none⟩ (.slice none 0 0)).setCell ⟨X, 6, none⟩ (.slice (some ⟨w7.heap.size, 0, none⟩) ts.length ts.length))).heap.size = w7.heap.size := by simp only [World.size_setCell]
  have hV := XB.fill (.mk k f o s n [] ts) (.slice none 0 0) (.slice (some ⟨w7.heap.size, 0, none⟩) ts.length ts.length)
  have hG : w.grownBy (((((((w7.setCell ⟨X, 0, none⟩ (.int .i64 k)).setCell ⟨X, 1, none⟩ (.string ⟨f.toArray⟩)).setCell ⟨X, 2, none⟩ (.string ⟨o.toArray⟩)).setCell ⟨X, 3, none⟩ (.int .i64 s)).setCell ⟨X, 4, none⟩ (.string ⟨n.toArray⟩)).setCell ⟨X, 5, none⟩ (.slice none 0 0)).setCell ⟨X, 6, none⟩ (.slice (some ⟨w7.heap.size, 0, none⟩) ts.length ts.length)) (some b) := grown_in (grown_in (grown_in (grown_in (grown_in (grown_in (grown_in hg hX _) hX _) hX _) hX _) hX _) hX _) hX _
  have hRR : SBox (((((((w7.setCell ⟨X, 0, none⟩ (.int .i64 k)).setCell ⟨X, 1, none⟩ (.string ⟨f.toArray⟩)).setCell ⟨X, 2, none⟩ (.string ⟨o.toArray⟩)).setCell ⟨X, 3, none⟩ (.int .i64 s)).setCell ⟨X, 4, none⟩ (.string ⟨n.toArray⟩)).setCell ⟨X, 5, none⟩ (.slice none 0 0)).setCell ⟨X, 6, none⟩ (.slice (some ⟨w7.heap.size, 0, none⟩) ts.length ts.length)) b l q := ((((((hR.far hne _).far hne _).far hne _).far hne _).far hne _).far hne _).far hne _
  simp only [Gl.kind, Gl.frm, Gl.rcv, Gl.sort, Gl.name] at hV
  generalize (((((((w7.setCell ⟨X, 0, none⟩ (.int .i64 k)).setCell ⟨X, 1, none⟩ (.string ⟨f.toArray⟩)).setCell ⟨X, 2, none⟩ (.string ⟨o.toArray⟩)).setCell ⟨X, 3, none⟩ (.int .i64 s)).setCell ⟨X, 4, none⟩ (.string ⟨n.toArray⟩)).setCell ⟨X, 5, none⟩ (.slice none 0 0)).setCell ⟨X, 6, none⟩ (.slice (some ⟨w7.heap.size, 0, none⟩) ts.length ts.length)) = w8 at hs hz hV hG hRR ⊢
  have hbel : Below w8.heap.size w8 (w8.alloc (.cells xs.toArray E)) := (Below.refl _ _).alloc (Nat.le_refl _) _
  refine ⟨hV.keep hbel hV.lt, grown_belowB hG hbel, hRR.keep hbel, _, _, rfl, no_strs' _ _, _, _, rfl, Nat.le_refl _, fun _ => ⟨w7.heap.size, 0, rfl, by have := hg.size; omega, ?_⟩⟩
  have h9 : Same (fun k => m ≤ k) w7 (w8.alloc (.cells xs.toArray E)) := hs.trans (by omega) (Same.below hbel)
  refine (hc.keep h9 (fun k hk _ => by show w.heap.size ≤ k; omega)).row 0 fun j u hj => ?_
  rw [Nat.zero_add, World.cell?_alloc_at _ _ _ _ hz.symm]
  simpa using hj
/-- The reader goes on. -/
theorem g_on {w w1 : World} {b : Nat} {l : Str} {q : Nat} (hg : w.grownBy w1 (some b)) (hR : RBox w1 b l q) (n : Nat) :
    w.grownBy (w1.setCell ⟨b, 1, none⟩ (.int .i64 ((q : Int) + n))) (some b) ∧ RBox (w1.setCell ⟨b, 1, none⟩ (.int .i64 ((q : Int) + n))) b l (q + n) := by
  have e : ((q + n : Nat) : Int) = (q : Int) + n := by omega
  rw [← e]
  exact ⟨grown_trans hg (grown_at _ _ _ _), hR.set (q + n)⟩
theorem s_on {w w1 : World} {b : Nat} {l : Str} {q : Nat} {bad : Option Nat} (hg : w.grownBy w1 (some b)) (hR : SBox w1 b l ⟨q, bad⟩) (n : Nat) :
    w.grownBy (w1.setCell ⟨b, 1, none⟩ (.int .i64 ((q : Int) + n))) (some b) ∧ SBox (w1.setCell ⟨b, 1, none⟩ (.int .i64 ((q : Int) + n))) b l ⟨q + n, bad⟩ := by
  have e : ((q + n : Nat) : Int) = (q : Int) + n := by omega
  rw [← e]
  exact ⟨grown_trans hg (grown_at _ _ _ _), hR.set (q + n)⟩
theorem seven_new (w : World) (a b c d e f g : Value) (E : TypeId) : ∀ j u, [a, b, c, d, e, f, g][j]? = some u → (w.alloc (.cells #[a, b, c, d, e, f, g] E)).cell? ((⟨w.heap.size, 0, none⟩ : Addr).add j) = some u := by
  intro j u hj
  rw [Go.WideShapes.add_plain]
  match j, hj with
  | 0, hj | 1, hj | 2, hj | 3, hj | 4, hj | 5, hj | 6, hj => simp at hj; subst hj; simp [go_sem]
  | j + 7, hj => simp at hj
/-- A box of one cell. -/
structure OBox (w : World) (b : Nat) (v : Value) : Prop where
  c : w.cell? ⟨b, 0, none⟩ = some v
  fr : ∀ j, w.frozen? ⟨b, j, none⟩ = false
theorem OBox.lt {w : World} {b : Nat} {v : Value} (h : OBox w b v) : b < w.heap.size := cell_lt h.c
theorem OBox.keep {w w' : World} {b : Nat} {v : Value} (h : OBox w b v) (hb : Below w.heap.size w w') : OBox w' b v := ⟨cell_keep h.c hb, fun j => (hb.frozen (p := ⟨b, j, none⟩) h.lt).trans (h.fr j)⟩
theorem OBox.grown' {w w' : World} {b p : Nat} {v : Value} (h : OBox w b v) (hg : w.grownBy w' (some p)) (hb : b ≠ p) : OBox w' b v :=
  ⟨(World.cell?_of_block (a := ⟨b, 0, none⟩) (hg.block b h.lt (fun e => hb (by injection e)))).trans h.c, fun j => (World.frozen?_of_block (a := ⟨b, j, none⟩) (hg.block b h.lt (fun e => hb (by injection e)))).trans (h.fr j)⟩
theorem OBox.far {w : World} {b : Nat} {v : Value} (h : OBox w b v) {p : Addr} (hp : p.block ≠ b) (u : Value) : OBox (w.setCell p u) b v :=
  ⟨(World.cell?_setCell_far w p _ u hp).trans h.c, fun j => by rw [World.frozen?_setCell]; exact h.fr j⟩
theorem OBox.new (w : World) (v : Value) (E : TypeId) : OBox (w.alloc (.cells #[v] E)) w.heap.size v := ⟨by simp [go_sem], fun j => by simp [go_sem]⟩
end Go.Proofs.YtgnkncfnkjeinaaDoor
namespace Go.Proofs.YtgnkncfnkjeinaaDoor
open Go.RowKit Go.Proofs

section
variable {P : Program} {ops : Array Oper} {Q : Exit → Act → World → Prop} {md : Region.Mode} {S : World → Prop} {n : Nat}
/-- What is listed has all listed that it waits for. -/
def Closed (md : Region.Mode) (ops : Array Oper) (L : Array Bool) : Prop := ∀ j o, ops[j]? = some o → L.getD j false = true → ∀ e ∈ o.after, Region.binds md e = true → L.getD e.on false = true
def closedB (md : Region.Mode) (ops : Array Oper) (L : Array Bool) : Bool := (List.range ops.size).all fun j => match ops[j]? with | some o => !(L.getD j false) || o.after.all fun e => !Region.binds md e || L.getD e.on false | none => true
theorem closed_of {L : Array Bool} (h : closedB md ops L = true) : Closed md ops L := by
  intro j o ho hj e he hb
  have hjs : j < ops.size := (Array.getElem?_eq_some_iff.1 ho).1
  have h1 := List.all_eq_true.1 h j (List.mem_range.2 hjs)
  simp only [ho, hj, Bool.not_true, Bool.false_or] at h1
  obtain ⟨k, hk, rfl⟩ := Array.mem_iff_getElem.1 he
  have h2 := Array.all_eq_true.1 h1 k hk
  simpa [hb] using h2
theorem closed_step {L : Array Bool} (h : Closed md ops L) {i : Nat} (hi : i ∈ Region.ready md ops L) : Closed md ops (L.setIfInBounds i true) := by
  intro j o ho hj e he hb
  obtain ⟨_, o', ho', hall⟩ := mem_ready.1 hi
  by_cases hij : i = j
  · subst hij
    rw [ho] at ho'
    obtain rfl := Option.some.inj ho'
    exact getD_set_true (hall e he hb)
  · rw [getD_set_ne false hij] at hj
    exact getD_set_true (h j o ho hj e he hb)
/-- Does number k wait for number i, through others too? -/
def waitsT (md : Region.Mode) (ops : Array Oper) (i : Nat) : Nat → Nat → Bool
  | 0, _ => false
  | f + 1, k => match ops[k]? with
    | some o => o.after.any fun e => Region.binds md e && (e.on == i || waitsT md ops i f e.on)
    | none => false
theorem waitsT_no {L : Array Bool} (h : Closed md ops L) {i : Nat} (hi : L.getD i false = false) : ∀ (f k : Nat), waitsT md ops i f k = true → L.getD k false = false := by
  intro f
  induction f with
  | zero => intro k hk; simp [waitsT] at hk
  | succ f ih =>
    intro k hk
    cases hL : L.getD k false with
    | false => rfl
    | true =>
      unfold waitsT at hk
      split at hk
      · rename_i o ho
        obtain ⟨x, hx, he⟩ := Array.any_eq_true.1 hk
        simp only [Bool.and_eq_true, Bool.or_eq_true, beq_iff_eq] at he
        have h1 := h k o ho hL _ (Array.getElem_mem hx) he.1
        rcases he.2 with e | e
        · rw [e, hi] at h1; cases h1
        · rw [ih _ e] at h1; cases h1
      · cases hk
def tailWaitsT (md : Region.Mode) (ops : Array Oper) (n i : Nat) : Bool := (List.range ops.size).all fun j => decide (j < n) || waitsT md ops i ops.size j
theorem tailT_lt {i j : Nat} {L : Array Bool} (hc : Closed md ops L) (h : tailWaitsT md ops n i = true) (hi : L.getD i true = false) (hj : j ∈ Region.ready md ops L) : j < n := by
  have hif : L.getD i false = false := by
    rcases Nat.lt_or_ge i L.size with h' | h'
    · simp only [Array.getD, h', dite_true] at hi ⊢; exact hi
    · simp [Array.getD, Nat.not_lt.2 h'] at hi
  obtain ⟨hu, o, ho, hall⟩ := mem_ready.1 hj
  have hjs : j < ops.size := (Array.getElem?_eq_some_iff.1 ho).1
  have h1 := List.all_eq_true.1 h j (List.mem_range.2 hjs)
  simp only [Bool.or_eq_true, decide_eq_true_eq] at h1
  rcases h1 with h1 | h1
  · exact h1
  · exfalso
    obtain ⟨f, hf⟩ : ∃ f, ops.size = f + 1 := ⟨ops.size - 1, by omega⟩
    rw [hf] at h1
    unfold waitsT at h1
    rw [ho] at h1
    obtain ⟨x, hx, he⟩ := Array.any_eq_true.1 h1
    simp only [Bool.and_eq_true, Bool.or_eq_true, beq_iff_eq] at he
    have h2 := hall _ (Array.getElem_mem hx) he.1
    rcases he.2 with e | e
    · rw [e, hif] at h2; cases h2
    · rw [waitsT_no hc hif _ _ e] at h2; cases h2
theorem wpT_firstT {i : Nat} {oi : Oper} {v : Value} (hi : ops[i]? = some oi) (hsel : ∀ (j : Nat) (o : Oper) cs b, ops[j]? = some o → o.op ≠ .select cs b) (htail : tailWaitsT md ops n i = true)
    (hQ : ∀ c a w, Q (.panic c) (a.put oi.dst v) w → Q (.panic c) a w) :
    ∀ (g : Nat) (L : Array Bool) (a : Act) (w : World), Closed md ops L →
      (∀ j oj, ops[j]? = some oj → j ≠ i → L.getD j true = false → (∀ e ∈ oj.after, Region.binds md e = true → e.on ≠ i) → oi.apart ops oj = true) →
      i ∈ Region.ready md ops L → YieldsIf P ops S oi v a → S w → wpT P md ops Q S n g (L.setIfInBounds i true) (a.put oi.dst v) w → wpT P md ops Q S n (g + 1) L a w := by
  intro g
  induction g with
  | zero =>
    intro L a w _ _ hr hy hS H
    refine ⟨fun h => (by rw [h] at hr; cases hr), fun j hj => ?_⟩
    by_cases hji : j = i
    · subst hji
      exact hy.wpOp hi hS ⟨fun _ => hS, H⟩
    · have h1 := ready_mono hj hji
      rw [H.1] at h1
      cases h1
  | succ g ih =>
    intro L a w hc hfree hr hy hS H
    refine ⟨fun h => (by rw [h] at hr; cases hr), fun j hj => ?_⟩
    by_cases hji : j = i
    · subst hji
      exact hy.wpOp hi hS ⟨fun _ => hS, H⟩
    have hiL := (mem_ready.1 hr).1
    have hjn : j < n := tailT_lt hc htail hiL hj
    have h1 := H.2 j (ready_mono hj hji)
    obtain ⟨hju, oj, hoj, hall⟩ := mem_ready.1 hj
    have hno : ∀ e ∈ oj.after, Region.binds md e = true → e.on ≠ i := by
      intro e he hb hei
      have h2 := hall e he hb
      rw [hei] at h2
      rcases Nat.lt_or_ge i L.size with h' | h'
      · simp only [Array.getD, h', dite_true] at hiL h2
        exact absurd (hiL.symm.trans h2) (by simp)
      · simp [Array.getD, Nat.not_lt.2 h'] at hiL
    have h2 := wpOp_putIf hoj (hfree j oj hoj hji hju hno) (fun cs b => hsel i oi cs b hi) (fun cs b => hsel j oj cs b hoj) hQ hy h1
    refine wpOp_mono (fun a' w' h3 => ⟨h3.2.1, ?_⟩) h2
    refine ih (L.setIfInBounds j true) a' w' (closed_step hc hj) (fun k ok hk hki hun hno' => ?_) (ready_mono hr (Ne.symm hji)) h3.1 (h3.2.1 hjn) ?_
    · refine hfree k ok hk hki ?_ hno'
      by_cases hjk : j = k
      · subst hjk; exact hju
      · rw [getD_set_ne true hjk] at hun; exact hun
    · rw [Array.setIfInBounds_comm _ _ hji]
      exact h3.2.2
/-- Take number i first; the tail waits for it through others. -/
theorem wpT_takeT {i : Nat} {oi : Oper} {v : Value} {g : Nat} {L : Array Bool} {a : Act} {w : World} (hi : ops[i]? = some oi)
    (hs : Region.noSelect ops = true) (hf : Region.free md ops L i = true) (hr : (Region.ready md ops L).contains i = true) (ht : tailWaitsT md ops n i = true) (hc : closedB md ops L = true)
    (hQ : ∀ c a w, Q (.panic c) (a.put oi.dst v) w → Q (.panic c) a w) (hy : YieldsIf P ops S oi v a) (hS : S w)
    (h : wpT P md ops Q S n g (L.setIfInBounds i true) (a.put oi.dst v) w) : wpT P md ops Q S n (g + 1) L a w :=
  wpT_firstT hi (Region.noSelect_spec hs) ht hQ g L a w (closed_of hc) (Region.free_spec hi hf) (by simpa using hr) hy hS h
end
end Go.Proofs.YtgnkncfnkjeinaaDoor
namespace Go.Proofs.YtgnkncfnkjeinaaDoor
open Go.RowKit Go.Proofs

set_option maxRecDepth 100000
/-- Two rows: labels and kids. -/
structure GRows (w : World) (base : Nat) (lv kv : Value) (ls : List Str) (ks : List Gl) (xs : List Value) : Prop where
  labels : w.ownsRow base 9 1 lv ls.length (strVals ls)
  kids : w.ownsRow base 52 7 kv ks.length xs
  cells : Cells7 (fun k => base ≤ k ∧ lv.ownBlock ≠ some k ∧ kv.ownBlock ≠ some k) w xs ks
  sep : ∀ k, lv.ownBlock = some k → kv.ownBlock ≠ some k
theorem GRows.at {w w' : World} {base b : Nat} {lv kv : Value} {ls : List Str} {ks : List Gl} {xs : List Value} (h : GRows w base lv kv ls ks xs) (hg : w.grownBy w' (some b)) (hb : b < base) : GRows w' base lv kv ls ks xs :=
  ⟨own_at h.labels hg hb, own_at h.kids hg hb, h.cells.keep (fun k hk hl => hg.block k hl (fun e => by have := Option.some.inj e; have := hk.1; omega)) (fun _ hk _ => hk), h.sep⟩
theorem GRows.below {w w' : World} {base : Nat} {lv kv : Value} {ls : List Str} {ks : List Gl} {xs : List Value} (h : GRows w base lv kv ls ks xs) (hb : Below w.heap.size w w') : GRows w' base lv kv ls ks xs :=
  ⟨own_keep h.labels hb (Nat.le_refl _), own_keep h.kids hb (Nat.le_refl _), h.cells.keep (Same.below hb) (fun _ hk _ => hk), h.sep⟩
theorem GRows.set {w : World} {base : Nat} {lv kv : Value} {ls : List Str} {ks : List Gl} {xs : List Value} (h : GRows w base lv kv ls ks xs) {a : Addr} (ha : a.block < base) (u : Value) : GRows (w.setCell a u) base lv kv ls ks xs :=
  ⟨own_set h.labels ha u, own_set h.kids ha u, h.cells.keep (Same.set (fun hk => by have := hk.1; omega)) (fun _ hk _ => hk), h.sep⟩
theorem GRows.drew {w : World} {base : Nat} {lv kv : Value} {ls : List Str} {ks : List Gl} {xs : List Value} (h : GRows w base lv kv ls ks xs) : GRows w.drew base lv kv ls ks xs :=
  h.below (Below.refl _ _).drew
theorem GRows.new (w : World) (base : Nat) : GRows w base (.slice none 0 0) (.slice none 0 0) [] [] [] :=
  ⟨⟨rfl, Or.inl ⟨rfl, rfl⟩⟩, ⟨rfl, Or.inl ⟨rfl, rfl⟩⟩, .nil, fun k hk => by simp [Value.ownBlock] at hk⟩
theorem GRows.strs {D : Blocks} {w : World} {base : Nat} {lv kv : Value} {ls : List Str} {ks : List Gl} {xs : List Value} (h : GRows w base lv kv ls ks xs) (hD : ∀ b, base ≤ b → D b) : StrsD D w lv ls := own_strsD h.labels hD
theorem GRows.gls {D : Blocks} {w : World} {base : Nat} {lv kv : Value} {ls : List Str} {ks : List Gl} {xs : List Value} (h : GRows w base lv kv ls ks xs) (hD : ∀ b, base ≤ b → D b) : Gls D w kv ks :=
  own_gls h.kids (h.cells.keep (D' := D) (fun _ _ _ => rfl) (fun k hk _ => hD k hk.1)) hD
/-- One label more. -/
theorem GRows.label {w w' : World} {base : Nat} {lv lv' kv : Value} {ls : List Str} {ks : List Gl} {xs : List Value} {x : Str} (h : GRows w base lv kv ls ks xs) (hown : w'.ownsRow base 9 1 lv' (ls.length + 1) (strVals ls ++ [.string ⟨x.toArray⟩]))
    (hg : w.grownBy w' lv.ownBlock) (hv : lv'.ownBlock = lv.ownBlock ∨ lv'.ownBlock = some w.heap.size) : GRows w' base lv' kv (ls ++ [x]) ks xs := by
  have hk : kv.ownBlock = none ∨ kv.ownBlock ≠ lv.ownBlock := by
    cases e : kv.ownBlock with
    | none => exact Or.inl rfl
    | some k => exact Or.inr fun e' => h.sep k e'.symm e
  refine ⟨?_, h.kids.kept hg hk, h.cells.keep (fun k hd hl => hg.block k hl (Ne.symm hd.2.1)) (fun k hd hl => ⟨hd.1, ?_, hd.2.2⟩), fun k e => ?_⟩
  · have e : strVals (ls ++ [x]) = strVals ls ++ [.string ⟨x.toArray⟩] := by simp [strVals]
    rw [e, List.length_append]
    exact hown
  · intro e
    rcases hv with h1 | h1
    · exact hd.2.1 (h1.symm.trans e)
    · have := Option.some.inj (h1.symm.trans e); omega
  · intro e'
    rcases hv with h1 | h1
    · exact h.sep k (h1.symm.trans e) e'
    · have h2 := Option.some.inj (h1.symm.trans e)
      have := (h.kids.lt k e').2
      omega
/-- One kid more. -/
theorem GRows.kid {w w' : World} {base : Nat} {lv kv kv' : Value} {ls : List Str} {ks : List Gl} {xs news : List Value} {t : Gl} (h : GRows w base lv kv ls ks xs) (hc : Cells7 (fun k => base ≤ k ∧ lv.ownBlock ≠ some k ∧ kv.ownBlock ≠ some k) w news [t])
    (hown : w'.ownsRow base 52 7 kv' (ks.length + 1) (xs ++ news)) (hg : w.grownBy w' kv.ownBlock) (hv : kv'.ownBlock = kv.ownBlock ∨ kv'.ownBlock = some w.heap.size) : GRows w' base lv kv' ls (ks ++ [t]) (xs ++ news) := by
  have hk : lv.ownBlock = none ∨ lv.ownBlock ≠ kv.ownBlock := by
    cases e : lv.ownBlock with
    | none => exact Or.inl rfl
    | some k => exact Or.inr fun e' => h.sep k e e'.symm
  refine ⟨h.labels.kept hg hk, ?_, Cells7.append (h.cells.keep (fun k hd hl => hg.block k hl (Ne.symm hd.2.2)) fun k hd hl => ⟨hd.1, hd.2.1, ?_⟩) (hc.keep (fun k hd hl => hg.block k hl (Ne.symm hd.2.2)) fun k hd hl => ⟨hd.1, hd.2.1, ?_⟩), fun k e => ?_⟩
  · rw [List.length_append]; exact hown
  · intro e
    rcases hv with h1 | h1
    · exact hd.2.2 (h1.symm.trans e)
    · have := Option.some.inj (h1.symm.trans e); omega
  · intro e
    rcases hv with h1 | h1
    · exact hd.2.2 (h1.symm.trans e)
    · have := Option.some.inj (h1.symm.trans e); omega
  · intro e'
    rcases hv with h1 | h1
    · exact h.sep k e (h1.symm.trans e')
    · have h2 := Option.some.inj (h1.symm.trans e')
      have := (h.labels.lt k e).2
      omega
/-- Both rows laid into their box. -/
theorem GBox.set56 {w : World} {b : Nat} {t : Gl} {lv kv : Value} (h : GBox w b t lv kv) (lv' kv' : Value) : GBox ((w.setCell ⟨b, 5, none⟩ lv').setCell ⟨b, 6, none⟩ kv') b t lv' kv' := by
  have e : ∀ {w : World} {i j : Nat} {u : Value}, i ≠ j → (w.setCell ⟨b, i, none⟩ u).cell? ⟨b, j, none⟩ = w.cell? ⟨b, j, none⟩ := fun h => World.cell?_setCell_other _ _ _ _ (fun e => h (by injection e))
  refine ⟨?_, ?_, ?_, ?_, ?_, ?_, ?_, fun j => by simp only [World.frozen?_setCell]; exact h.fr j, by simp only [World.size_setCell]; exact h.lt⟩
  · rw [e (by decide), e (by decide)]; exact h.c0
  · rw [e (by decide), e (by decide)]; exact h.c1
  · rw [e (by decide), e (by decide)]; exact h.c2
  · rw [e (by decide), e (by decide)]; exact h.c3
  · rw [e (by decide), e (by decide)]; exact h.c4
  · rw [e (by decide)]; exact World.cell?_setCell_same' _ _ _ (by rw [h.c5]; rfl)
  · exact World.cell?_setCell_same' _ _ _ (by rw [e (by decide), h.c6]; rfl)
/-- The labels alone laid into their box. -/
theorem GBox.put5 {w : World} {b : Nat} {t : Gl} {lv kv : Value} (h : GBox w b t lv kv) (lv' : Value) : GBox (w.setCell ⟨b, 5, none⟩ lv') b t lv' kv := by
  have e : ∀ {j : Nat}, 5 ≠ j → (w.setCell ⟨b, 5, none⟩ lv').cell? ⟨b, j, none⟩ = w.cell? ⟨b, j, none⟩ := fun h => World.cell?_setCell_other _ _ _ _ (fun e => h (by injection e))
  exact ⟨(e (by decide)).trans h.c0, (e (by decide)).trans h.c1, (e (by decide)).trans h.c2, (e (by decide)).trans h.c3, (e (by decide)).trans h.c4, World.cell?_setCell_same' _ _ _ (by rw [h.c5]; rfl), (e (by decide)).trans h.c6, fun j => by rw [World.frozen?_setCell]; exact h.fr j, by rw [World.size_setCell]; exact h.lt⟩
/-- The kids alone laid into their box. -/
theorem GBox.put6 {w : World} {b : Nat} {t : Gl} {lv kv : Value} (h : GBox w b t lv kv) (kv' : Value) : GBox (w.setCell ⟨b, 6, none⟩ kv') b t lv kv' := by
  have e : ∀ {j : Nat}, 6 ≠ j → (w.setCell ⟨b, 6, none⟩ kv').cell? ⟨b, j, none⟩ = w.cell? ⟨b, j, none⟩ := fun h => World.cell?_setCell_other _ _ _ _ (fun e => h (by injection e))
  exact ⟨(e (by decide)).trans h.c0, (e (by decide)).trans h.c1, (e (by decide)).trans h.c2, (e (by decide)).trans h.c3, (e (by decide)).trans h.c4, (e (by decide)).trans h.c5, World.cell?_setCell_same' _ _ _ (by rw [h.c6]; rfl), fun j => by rw [World.frozen?_setCell]; exact h.fr j, by rw [World.size_setCell]; exact h.lt⟩
/-- Where the head is done, the tail asks nothing of S. -/
theorem wpT_tail {P : Program} {ops : Array Oper} {Q : Exit → Act → World → Prop} {md : Region.Mode} {S S' : World → Prop} {n n' : Nat} : ∀ (g : Nat) (L : Array Bool) (a : Act) (w : World), (∀ j, j < n → L.getD j false = true) → wpT P md ops Q S' n' g L a w → wpT P md ops Q S n g L a w
  | 0, _, _, _, _, h => h
  | g + 1, L, a, w, hL, h => ⟨h.1, fun i hi => wpOp_mono (fun a' w' h' => ⟨fun hin => by
      have h1 := (mem_ready.1 hi).1
      have h2 := hL i hin
      rcases Nat.lt_or_ge i L.size with hs | hs
      · simp only [Array.getD, hs, dite_true] at h1 h2
        rw [h1] at h2; cases h2
      · simp [Array.getD, Nat.not_lt.2 hs] at h2, wpT_tail g _ a' w' (fun j hj => by
      by_cases hij : i = j
      · subst hij
        have h2 := hL i hj
        rcases Nat.lt_or_ge i L.size with hs | hs
        · simp [Array.getD, hs]
        · simp [Array.getD, Nat.not_lt.2 hs] at h2
      · rw [getD_set_ne false hij]; exact hL j hj) h'.2⟩) (h.2 i hi)⟩
/-- The last of a row of conversations put anew. -/
theorem own_put7 {w : World} {base g cap n : Nat} {e : TypeId} {xs : List Value} {z0 z1 z2 z3 z4 z5 z6 : Value} (h : w.ownsRow base e 7 (.slice (some ⟨g, 0, none⟩) (n + 1) cap) (n + 1) (xs ++ [z0, z1, z2, z3, z4, z5, z6])) (hx : xs.length = n * 7) (a0 a1 a2 a3 a4 a5 a6 : Value) :
    World.ownsRow (((((((w.setCell ⟨g, n * 7, none⟩ a0).setCell ⟨g, n * 7 + 1, none⟩ a1).setCell ⟨g, n * 7 + 2, none⟩ a2).setCell ⟨g, n * 7 + 3, none⟩ a3).setCell ⟨g, n * 7 + 4, none⟩ a4).setCell ⟨g, n * 7 + 5, none⟩ a5).setCell ⟨g, n * 7 + 6, none⟩ a6) base e 7 (.slice (some ⟨g, 0, none⟩) (n + 1) cap) (n + 1) (xs ++ [a0, a1, a2, a3, a4, a5, a6]) := by
  have h7 := ((((((h.stored (n * 7) a0).1.stored (n * 7 + 1) a1).1.stored (n * 7 + 2) a2).1.stored (n * 7 + 3) a3).1.stored (n * 7 + 4) a4).1.stored (n * 7 + 5) a5).1.stored (n * 7 + 6) a6
  replace h7 := h7.1
  have e : ((((((((xs ++ [z0, z1, z2, z3, z4, z5, z6]).set (n * 7) a0).set (n * 7 + 1) a1).set (n * 7 + 2) a2).set (n * 7 + 3) a3).set (n * 7 + 4) a4).set (n * 7 + 5) a5).set (n * 7 + 6) a6) = xs ++ [a0, a1, a2, a3, a4, a5, a6] := by
    rw [← hx]
    simp [List.set_append_right]
  rw [e] at h7
  exact h7
/-- Only two blocks of the old world have changed. -/
structure Two (w w' : World) (b G : Nat) : Prop where
  os : w'.os = w.os
  tape : w'.tape = w.tape
  output : w'.output = w.output
  size : w.heap.size ≤ w'.heap.size
  block : ∀ k, k < w.heap.size → k ≠ b → k ≠ G → w'.heap[k]? = w.heap[k]?
theorem Two.refl (w : World) (b G : Nat) : Two w w b G := ⟨rfl, rfl, rfl, Nat.le_refl _, fun _ _ _ _ => rfl⟩
theorem Two.trans {w w' w'' : World} {b G : Nat} (h : Two w w' b G) (h' : Two w' w'' b G) : Two w w'' b G :=
  ⟨h'.os.trans h.os, h'.tape.trans h.tape, h'.output.trans h.output, Nat.le_trans h.size h'.size, fun k hl h1 h2 => (h'.block k (Nat.lt_of_lt_of_le hl h.size) h1 h2).trans (h.block k hl h1 h2)⟩
theorem Two.step {w w' w'' : World} {b G : Nat} (h : Two w w' b G) (hg : w'.grownBy w'' (some b)) : Two w w'' b G :=
  h.trans ⟨hg.os, hg.tape, hg.output, hg.size, fun k hl h1 _ => hg.block k hl (fun e => h1 (Option.some.inj e))⟩
theorem Two.below {w w' w'' : World} {b G : Nat} (h : Two w w' b G) (hb : Below w'.heap.size w' w'') : Two w w'' b G :=
  h.trans ⟨hb.os, hb.tape, hb.output, hb.size, fun k hl _ _ => hb.block k hl⟩
theorem Two.belowT {w w' w'' : World} {b G B : Nat} (h : Two w w' b G) (hb : Below B w' w'') (hB : w.heap.size ≤ B) : Two w w'' b G :=
  ⟨hb.os.trans h.os, hb.tape.trans h.tape, hb.output.trans h.output, Nat.le_trans h.size hb.size, fun k hl h1 h2 => (hb.block k (by omega)).trans (h.block k hl h1 h2)⟩
theorem Two.set {w w' : World} {b G : Nat} (h : Two w w' b G) {a : Addr} (ha : a.block = G ∨ a.block = b ∨ w.heap.size ≤ a.block) (u : Value) : Two w (w'.setCell a u) b G := by
  refine ⟨h.os, h.tape, h.output, by rw [World.size_setCell]; exact h.size, fun k hl h1 h2 => ?_⟩
  rw [← h.block k hl h1 h2]
  exact Below.heap_setCell w' a u k (by omega)
theorem Two.grown {a w w' : World} {b G : Nat} (t : Two w w' b G) (h : a.grownBy w (some b)) (hG : a.heap.size ≤ G) : a.grownBy w' (some b) :=
  ⟨t.os.trans h.os, t.tape.trans h.tape, t.output.trans h.output, Nat.le_trans h.size t.size, fun q hl hne => (t.block q (Nat.lt_of_lt_of_le hl h.size) (fun e => hne (by rw [e])) (by omega)).trans (h.block q hl hne)⟩
theorem Two.same {w w' : World} {b G : Nat} (t : Two w w' b G) : Same (fun k => k ≠ b ∧ k ≠ G) w w' := fun k hk hl => t.block k hl hk.1 hk.2
theorem GBox.two {w w' : World} {X b G : Nat} {t : Gl} {lv kv : Value} (h : GBox w X t lv kv) (hs : Two w w' b G) (h1 : X ≠ b) (h2 : X ≠ G) : GBox w' X t lv kv := by
  have e := hs.block X h.lt h1 h2
  have hc : ∀ j, w'.cell? ⟨X, j, none⟩ = w.cell? ⟨X, j, none⟩ := fun j => World.cell?_of_block (a := ⟨X, j, none⟩) e
  exact ⟨(hc 0).trans h.c0, (hc 1).trans h.c1, (hc 2).trans h.c2, (hc 3).trans h.c3, (hc 4).trans h.c4, (hc 5).trans h.c5, (hc 6).trans h.c6, fun j => (World.frozen?_of_block (a := ⟨X, j, none⟩) e).trans (h.fr j), Nat.lt_of_lt_of_le h.lt hs.size⟩
/-- Seven cells of one block put: what lies elsewhere stays. -/
theorem put7_facts (w : World) (g o : Nat) (a0 a1 a2 a3 a4 a5 a6 : Value) :
    (∀ {X : Nat} {t : Gl} {lv kv : Value}, GBox w X t lv kv → g ≠ X → GBox (((((((w.setCell ⟨g, o, none⟩ a0).setCell ⟨g, o + 1, none⟩ a1).setCell ⟨g, o + 2, none⟩ a2).setCell ⟨g, o + 3, none⟩ a3).setCell ⟨g, o + 4, none⟩ a4).setCell ⟨g, o + 5, none⟩ a5).setCell ⟨g, o + 6, none⟩ a6) X t lv kv) ∧
    (∀ {b : Nat} {l : Str} {p : Nat}, RBox w b l p → g ≠ b → RBox (((((((w.setCell ⟨g, o, none⟩ a0).setCell ⟨g, o + 1, none⟩ a1).setCell ⟨g, o + 2, none⟩ a2).setCell ⟨g, o + 3, none⟩ a3).setCell ⟨g, o + 4, none⟩ a4).setCell ⟨g, o + 5, none⟩ a5).setCell ⟨g, o + 6, none⟩ a6) b l p) ∧
    (∀ {a : World} {row : Option Nat}, a.grownBy w row → a.heap.size ≤ g → a.grownBy (((((((w.setCell ⟨g, o, none⟩ a0).setCell ⟨g, o + 1, none⟩ a1).setCell ⟨g, o + 2, none⟩ a2).setCell ⟨g, o + 3, none⟩ a3).setCell ⟨g, o + 4, none⟩ a4).setCell ⟨g, o + 5, none⟩ a5).setCell ⟨g, o + 6, none⟩ a6) row) ∧
    (∀ {D : Blocks}, ¬ D g → Same D w (((((((w.setCell ⟨g, o, none⟩ a0).setCell ⟨g, o + 1, none⟩ a1).setCell ⟨g, o + 2, none⟩ a2).setCell ⟨g, o + 3, none⟩ a3).setCell ⟨g, o + 4, none⟩ a4).setCell ⟨g, o + 5, none⟩ a5).setCell ⟨g, o + 6, none⟩ a6)) ∧
    (∀ {w0 : World} {b G : Nat}, Two w0 w b G → w0.heap.size ≤ g → Two w0 (((((((w.setCell ⟨g, o, none⟩ a0).setCell ⟨g, o + 1, none⟩ a1).setCell ⟨g, o + 2, none⟩ a2).setCell ⟨g, o + 3, none⟩ a3).setCell ⟨g, o + 4, none⟩ a4).setCell ⟨g, o + 5, none⟩ a5).setCell ⟨g, o + 6, none⟩ a6) b G) ∧
    (∀ {P : Nat} {v : Value}, OBox w P v → g ≠ P → OBox (((((((w.setCell ⟨g, o, none⟩ a0).setCell ⟨g, o + 1, none⟩ a1).setCell ⟨g, o + 2, none⟩ a2).setCell ⟨g, o + 3, none⟩ a3).setCell ⟨g, o + 4, none⟩ a4).setCell ⟨g, o + 5, none⟩ a5).setCell ⟨g, o + 6, none⟩ a6) P v) := by
  refine ⟨fun h hg => ((((((h.far hg _).far hg _).far hg _).far hg _).far hg _).far hg _).far hg _, fun h hg => ((((((h.far hg _).far hg _).far hg _).far hg _).far hg _).far hg _).far hg _, fun h hg => grown_in (grown_in (grown_in (grown_in (grown_in (grown_in (grown_in h hg _) hg _) hg _) hg _) hg _) hg _) hg _, fun hD => ?_, fun h hg => ((((((h.set (Or.inr (Or.inr hg)) _).set (Or.inr (Or.inr hg)) _).set (Or.inr (Or.inr hg)) _).set (Or.inr (Or.inr hg)) _).set (Or.inr (Or.inr hg)) _).set (Or.inr (Or.inr hg)) _).set (Or.inr (Or.inr hg)) _, fun h hg => ((((((h.far hg _).far hg _).far hg _).far hg _).far hg _).far hg _).far hg _⟩
  intro k hk _
  have hne : k ≠ g := fun e => hD (e ▸ hk)
  rw [Below.heap_setCell _ _ _ _ hne, Below.heap_setCell _ _ _ _ hne, Below.heap_setCell _ _ _ _ hne, Below.heap_setCell _ _ _ _ hne, Below.heap_setCell _ _ _ _ hne, Below.heap_setCell _ _ _ _ hne, Below.heap_setCell _ _ _ _ hne]
/-- Seven cells of one block laid: what lies elsewhere stays. -/
theorem fill7_facts (w : World) (g : Nat) (a0 a1 a2 a3 a4 a5 a6 : Value) :
    (∀ {X : Nat} {t : Gl} {lv kv : Value}, GBox w X t lv kv → g ≠ X → GBox (((((((w.setCell ⟨g, 0, none⟩ a0).setCell ⟨g, 1, none⟩ a1).setCell ⟨g, 2, none⟩ a2).setCell ⟨g, 3, none⟩ a3).setCell ⟨g, 4, none⟩ a4).setCell ⟨g, 5, none⟩ a5).setCell ⟨g, 6, none⟩ a6) X t lv kv) ∧
    (∀ {b : Nat} {l : Str} {p : Nat}, RBox w b l p → g ≠ b → RBox (((((((w.setCell ⟨g, 0, none⟩ a0).setCell ⟨g, 1, none⟩ a1).setCell ⟨g, 2, none⟩ a2).setCell ⟨g, 3, none⟩ a3).setCell ⟨g, 4, none⟩ a4).setCell ⟨g, 5, none⟩ a5).setCell ⟨g, 6, none⟩ a6) b l p) ∧
    (∀ {a : World} {row : Option Nat}, a.grownBy w row → a.heap.size ≤ g → a.grownBy (((((((w.setCell ⟨g, 0, none⟩ a0).setCell ⟨g, 1, none⟩ a1).setCell ⟨g, 2, none⟩ a2).setCell ⟨g, 3, none⟩ a3).setCell ⟨g, 4, none⟩ a4).setCell ⟨g, 5, none⟩ a5).setCell ⟨g, 6, none⟩ a6) row) ∧
    (∀ {D : Blocks}, ¬ D g → Same D w (((((((w.setCell ⟨g, 0, none⟩ a0).setCell ⟨g, 1, none⟩ a1).setCell ⟨g, 2, none⟩ a2).setCell ⟨g, 3, none⟩ a3).setCell ⟨g, 4, none⟩ a4).setCell ⟨g, 5, none⟩ a5).setCell ⟨g, 6, none⟩ a6)) ∧
    (∀ {b : Nat} {l : Str} {s : St}, SBox w b l s → g ≠ b → SBox (((((((w.setCell ⟨g, 0, none⟩ a0).setCell ⟨g, 1, none⟩ a1).setCell ⟨g, 2, none⟩ a2).setCell ⟨g, 3, none⟩ a3).setCell ⟨g, 4, none⟩ a4).setCell ⟨g, 5, none⟩ a5).setCell ⟨g, 6, none⟩ a6) b l s) := by
  refine ⟨fun h hg => ((((((h.far hg _).far hg _).far hg _).far hg _).far hg _).far hg _).far hg _, fun h hg => ((((((h.far hg _).far hg _).far hg _).far hg _).far hg _).far hg _).far hg _, fun h hg => grown_in (grown_in (grown_in (grown_in (grown_in (grown_in (grown_in h hg _) hg _) hg _) hg _) hg _) hg _) hg _, fun hD => Same.fill7 hD _ _ _ _ _ _ _, fun h hg => ((((((h.far hg _).far hg _).far hg _).far hg _).far hg _).far hg _).far hg _⟩
end Go.Proofs.YtgnkncfnkjeinaaDoor
namespace Go.Proofs.YtgnkncfnkjeinaaDoor
open Go.RowKit Go.Proofs

set_option maxRecDepth 100000
theorem VBox.grown {w w' : World} {b p : Nat} {t : Ty} {lv kv : Value} (h : VBox w b t lv kv) (hg : w.grownBy w' (some p)) (hb : b ≠ p) : VBox w' b t lv kv := by
  have hne : some b ≠ some p := fun e => hb (by injection e)
  have hc : ∀ j, w'.cell? ⟨b, j, none⟩ = w.cell? ⟨b, j, none⟩ := fun j => hg.cell_far ⟨b, j, none⟩ h.lt hne
  have hf : ∀ j, w'.frozen? ⟨b, j, none⟩ = w.frozen? ⟨b, j, none⟩ := fun j => hg.frozen_far ⟨b, j, none⟩ h.lt hne
  exact ⟨(hc 0).trans h.c0, (hc 1).trans h.c1, (hc 2).trans h.c2, (hc 3).trans h.c3, (hc 4).trans h.c4, fun j => (hf j).trans (h.fr j), Nat.lt_of_lt_of_le h.lt hg.size⟩
theorem VBox.far5 {w : World} {b q : Nat} {t : Ty} {lv kv : Value} (h : VBox w b t lv kv) (hq : q ≠ b) (x0 x1 x2 x3 x4 : Value) :
    VBox (((((w.setCell ⟨q, 0, none⟩ x0).setCell ⟨q, 1, none⟩ x1).setCell ⟨q, 2, none⟩ x2).setCell ⟨q, 3, none⟩ x3).setCell ⟨q, 4, none⟩ x4) b t lv kv := by
  have h0 := h.far (p := ⟨q, 0, none⟩) hq x0
  have h1 := h0.far (p := ⟨q, 1, none⟩) hq x1
  have h2 := h1.far (p := ⟨q, 2, none⟩) hq x2
  have h3 := h2.far (p := ⟨q, 3, none⟩) hq x3
  exact h3.far (p := ⟨q, 4, none⟩) hq x4
theorem clone_own {D : Blocks} {w : World} {v : Value} {l : List Str} (h : StrsD D w v l) (hl : l.length ≤ 1000) :
    Calls Tryd.prog 67 #[v] w fun e w' => ∃ v', e = .returned v' ∧ w'.ownsRow w.heap.size 9 1 v' l.length (l.map fun s => .string ⟨s.toArray⟩) ∧ Below w.heap.size w w' := by
  obtain ⟨A, cap, rfl, hc, h3⟩ := h
  cases A with
  | none =>
    have h0 : l = [] := by
      rcases Nat.eq_zero_or_pos l.length with h | h
      · exact List.eq_nil_of_length_eq_zero h
      · obtain ⟨b, off, e, _⟩ := h3 h
        cases e
    subst h0
    refine (Tryd.slices_Clone_string_nil _ _ w).mono ?_
    rintro e w' ⟨rfl, rfl⟩
    exact ⟨_, rfl, World.ownsRow_nil _ _ _ _, Below.refl _ _⟩
  | some a =>
    rcases Nat.eq_zero_or_pos l.length with h | h
    · have h0 := List.eq_nil_of_length_eq_zero h
      subst h0
      refine (Tryd.slices_Clone_string_zero a cap w).mono ?_
      rintro e w' ⟨v', rfl, hown, _, hb⟩
      exact ⟨_, rfl, hown, hb⟩
    · obtain ⟨b, off, e, _, hr⟩ := h3 h
      cases e
      refine (Tryd.slices_Clone_string b off l.length cap (l.map fun s => ⟨s.toArray⟩) w (by simp) (by omega) ?_).mono ?_
      · intro j hj
        have hj' : j < l.length := by simpa using hj
        rw [hr j l[j] (by simp [hj'])]
        simp [List.getD, hj']
      · rintro e w' ⟨v', rfl, hown, _, hb⟩
        rw [List.take_of_length_le (by simp), List.map_map] at hown
        exact ⟨_, rfl, hown, hb⟩
theorem IsTodos.form {w : World} {ad : Addr} {n c : Nat} {st : List Todo} (h : IsTodos w (.slice (some ad) n c) st) : n = st.length ∧ ∃ xs, Cells6 w xs st ∧ ∀ j u, xs[j]? = some u → w.cell? (ad.add j) = some u := by
  obtain ⟨A, cap, xs, e, _, h3, _, h5⟩ := h
  injection e with e1 e2 e3
  subst e1 e2 e3
  exact ⟨rfl, xs, h3, (h5 _ rfl).2⟩
end Go.Proofs.YtgnkncfnkjeinaaDoor
