/-
  What the walks of both readers of conversations share: how an answer is laid into its box.
-/
import Derived.Test.YtcacembpegoghaaDoorGlQ
import Derived.Test.YtcacembpegoghaaDoorRdR2
namespace Go.Proofs.YtcacembpegoghaaDoor
open Go.RowKit Go.Proofs

set_option maxRecDepth 100000
/-- What a reading answers in the program: the conversation and the rest behind it, or what is thrown. -/
def GAns (w : World) (b : Nat) (l : Str) (r : Rd Gl) (e : Ending) (w' : World) : Prop := w.grownBy w' (some b) ∧ match r with
  | .ok t q => ∃ v, e = .returned v ∧ GlV (fun k => w.heap.size ≤ k) w' v t ∧ RBox w' b l q
  | .bad q => e = .panicked (gthrown q)
/-- What the reference's reader answers. -/
def GAnsR (w : World) (b : Nat) (l : Str) (r : Gl × St) (e : Ending) (w' : World) : Prop := w.grownBy w' (some b) ∧ ∃ v, e = .returned v ∧ GlV (fun k => w.heap.size ≤ k) w' v r.1 ∧ SBox w' b l r.2
theorem GBox.grown' {w w' : World} {b p : Nat} {t : Gl} {lv kv : Value} (h : GBox w b t lv kv) (hg : w.grownBy w' (some p)) (hb : b ≠ p) : GBox w' b t lv kv := h.grown hg (fun e => hb (by injection e))
/-- The answer is written into its box. -/
theorem gfinish {w w2 : World} {b X : Nat} {l : Str} {q : Nat} {t0 : Gl} {lv0 kv0 : Value} (hb : b < w.heap.size) (hX : w.heap.size ≤ X) (hg : w.grownBy w2 (some b)) (hR : RBox w2 b l q) (XB : GBox w2 X t0 lv0 kv0) (k : Int) (f o : Str) (s : Int) (n : Str) (ls : List Str) (ks : List Gl) (lv kv : Value)
    (h1 : StrsD (fun k => w.heap.size ≤ k ∧ k ≠ X) w2 lv ls) (h2 : Gls (fun k => w.heap.size ≤ k ∧ k ≠ X) w2 kv ks) :
    GBox (((((((w2.setCell ⟨X, 0, none⟩ (.int .i64 k)).setCell ⟨X, 1, none⟩ (.string ⟨f.toArray⟩)).setCell ⟨X, 2, none⟩ (.string ⟨o.toArray⟩)).setCell ⟨X, 3, none⟩ (.int .i64 s)).setCell ⟨X, 4, none⟩ (.string ⟨n.toArray⟩)).setCell ⟨X, 5, none⟩ lv).setCell ⟨X, 6, none⟩ kv) X (.mk k f o s n ls ks) lv kv ∧ w.grownBy (((((((w2.setCell ⟨X, 0, none⟩ (.int .i64 k)).setCell ⟨X, 1, none⟩ (.string ⟨f.toArray⟩)).setCell ⟨X, 2, none⟩ (.string ⟨o.toArray⟩)).setCell ⟨X, 3, none⟩ (.int .i64 s)).setCell ⟨X, 4, none⟩ (.string ⟨n.toArray⟩)).setCell ⟨X, 5, none⟩ lv).setCell ⟨X, 6, none⟩ kv) (some b) ∧ RBox (((((((w2.setCell ⟨X, 0, none⟩ (.int .i64 k)).setCell ⟨X, 1, none⟩ (.string ⟨f.toArray⟩)).setCell ⟨X, 2, none⟩ (.string ⟨o.toArray⟩)).setCell ⟨X, 3, none⟩ (.int .i64 s)).setCell ⟨X, 4, none⟩ (.string ⟨n.toArray⟩)).setCell ⟨X, 5, none⟩ lv).setCell ⟨X, 6, none⟩ kv) b l q ∧ GlV (fun k => w.heap.size ≤ k) (((((((w2.setCell ⟨X, 0, none⟩ (.int .i64 k)).setCell ⟨X, 1, none⟩ (.string ⟨f.toArray⟩)).setCell ⟨X, 2, none⟩ (.string ⟨o.toArray⟩)).setCell ⟨X, 3, none⟩ (.int .i64 s)).setCell ⟨X, 4, none⟩ (.string ⟨n.toArray⟩)).setCell ⟨X, 5, none⟩ lv).setCell ⟨X, 6, none⟩ kv) (.agg #[.int .i64 k, .string ⟨f.toArray⟩, .string ⟨o.toArray⟩, .int .i64 s, .string ⟨n.toArray⟩, lv, kv]) (.mk k f o s n ls ks) := by
  have hne : X ≠ b := by omega
  have hs : Same (fun k => w.heap.size ≤ k ∧ k ≠ X) w2 (((((((w2.setCell ⟨X, 0, none⟩ (.int .i64 k)).setCell ⟨X, 1, none⟩ (.string ⟨f.toArray⟩)).setCell ⟨X, 2, none⟩ (.string ⟨o.toArray⟩)).setCell ⟨X, 3, none⟩ (.int .i64 s)).setCell ⟨X, 4, none⟩ (.string ⟨n.toArray⟩)).setCell ⟨X, 5, none⟩ lv).setCell ⟨X, 6, none⟩ kv) := Same.fill7 (fun h => h.2 rfl) _ _ _ _ _ _ _
  refine ⟨XB.fill (.mk k f o s n ls ks) lv kv, grown_in (grown_in (grown_in (grown_in (grown_in (grown_in (grown_in hg hX _) hX _) hX _) hX _) hX _) hX _) hX _, ((((((hR.far hne _).far hne _).far hne _).far hne _).far hne _).far hne _).far hne _, ?_⟩
  exact ⟨lv, kv, rfl, h1.keep hs (fun _ h _ => h.1), h2.keep hs (fun _ h _ => h.1)⟩
theorem gfinishS {w w2 : World} {b X : Nat} {l : Str} {q : St} {t0 : Gl} {lv0 kv0 : Value} (hb : b < w.heap.size) (hX : w.heap.size ≤ X) (hg : w.grownBy w2 (some b)) (hR : SBox w2 b l q) (XB : GBox w2 X t0 lv0 kv0) (k : Int) (f o : Str) (s : Int) (n : Str) (ls : List Str) (ks : List Gl) (lv kv : Value)
    (h1 : StrsD (fun k => w.heap.size ≤ k ∧ k ≠ X) w2 lv ls) (h2 : Gls (fun k => w.heap.size ≤ k ∧ k ≠ X) w2 kv ks) :
    GBox (((((((w2.setCell ⟨X, 0, none⟩ (.int .i64 k)).setCell ⟨X, 1, none⟩ (.string ⟨f.toArray⟩)).setCell ⟨X, 2, none⟩ (.string ⟨o.toArray⟩)).setCell ⟨X, 3, none⟩ (.int .i64 s)).setCell ⟨X, 4, none⟩ (.string ⟨n.toArray⟩)).setCell ⟨X, 5, none⟩ lv).setCell ⟨X, 6, none⟩ kv) X (.mk k f o s n ls ks) lv kv ∧ w.grownBy (((((((w2.setCell ⟨X, 0, none⟩ (.int .i64 k)).setCell ⟨X, 1, none⟩ (.string ⟨f.toArray⟩)).setCell ⟨X, 2, none⟩ (.string ⟨o.toArray⟩)).setCell ⟨X, 3, none⟩ (.int .i64 s)).setCell ⟨X, 4, none⟩ (.string ⟨n.toArray⟩)).setCell ⟨X, 5, none⟩ lv).setCell ⟨X, 6, none⟩ kv) (some b) ∧ SBox (((((((w2.setCell ⟨X, 0, none⟩ (.int .i64 k)).setCell ⟨X, 1, none⟩ (.string ⟨f.toArray⟩)).setCell ⟨X, 2, none⟩ (.string ⟨o.toArray⟩)).setCell ⟨X, 3, none⟩ (.int .i64 s)).setCell ⟨X, 4, none⟩ (.string ⟨n.toArray⟩)).setCell ⟨X, 5, none⟩ lv).setCell ⟨X, 6, none⟩ kv) b l q ∧ GlV (fun k => w.heap.size ≤ k) (((((((w2.setCell ⟨X, 0, none⟩ (.int .i64 k)).setCell ⟨X, 1, none⟩ (.string ⟨f.toArray⟩)).setCell ⟨X, 2, none⟩ (.string ⟨o.toArray⟩)).setCell ⟨X, 3, none⟩ (.int .i64 s)).setCell ⟨X, 4, none⟩ (.string ⟨n.toArray⟩)).setCell ⟨X, 5, none⟩ lv).setCell ⟨X, 6, none⟩ kv) (.agg #[.int .i64 k, .string ⟨f.toArray⟩, .string ⟨o.toArray⟩, .int .i64 s, .string ⟨n.toArray⟩, lv, kv]) (.mk k f o s n ls ks) := by
  have hne : X ≠ b := by omega
  have hs : Same (fun k => w.heap.size ≤ k ∧ k ≠ X) w2 (((((((w2.setCell ⟨X, 0, none⟩ (.int .i64 k)).setCell ⟨X, 1, none⟩ (.string ⟨f.toArray⟩)).setCell ⟨X, 2, none⟩ (.string ⟨o.toArray⟩)).setCell ⟨X, 3, none⟩ (.int .i64 s)).setCell ⟨X, 4, none⟩ (.string ⟨n.toArray⟩)).setCell ⟨X, 5, none⟩ lv).setCell ⟨X, 6, none⟩ kv) := Same.fill7 (fun h => h.2 rfl) _ _ _ _ _ _ _
  refine ⟨XB.fill (.mk k f o s n ls ks) lv kv, grown_in (grown_in (grown_in (grown_in (grown_in (grown_in (grown_in hg hX _) hX _) hX _) hX _) hX _) hX _) hX _, ((((((hR.far hne _).far hne _).far hne _).far hne _).far hne _).far hne _).far hne _, ?_⟩
  exact ⟨lv, kv, rfl, h1.keep hs (fun _ h _ => h.1), h2.keep hs (fun _ h _ => h.1)⟩
theorem gfinishKS {w w7 : World} {b X m : Nat} {l : Str} {q : St} {t0 : Gl} {lv0 kv0 : Value} (hb : b < w.heap.size) (hX : w.heap.size ≤ X) (hXm : X < m) (hm : m ≤ w7.heap.size) (hg : w.grownBy w7 (some b)) (hR : SBox w7 b l q) (XB : GBox w7 X t0 lv0 kv0) (k : Int) (f o : Str) (s : Int) (n : Str) (xs : List Value) (ts : List Gl) (hc : Cells7 (fun k => m ≤ k) w7 xs ts) (E : TypeId) :
    GBox ((((((((w7.setCell ⟨X, 0, none⟩ (.int .i64 k)).setCell ⟨X, 1, none⟩ (.string ⟨f.toArray⟩)).setCell ⟨X, 2, none⟩ (.string ⟨o.toArray⟩)).setCell ⟨X, 3, none⟩ (.int .i64 s)).setCell ⟨X, 4, none⟩ (.string ⟨n.toArray⟩)).setCell ⟨X, 5, none⟩ (.slice none 0 0)).setCell ⟨X, 6, none⟩ (.slice (some ⟨w7.heap.size, 0, none⟩) ts.length ts.length)).alloc (.cells xs.toArray E)) X (.mk k f o s n [] ts) (.slice none 0 0) (.slice (some ⟨w7.heap.size, 0, none⟩) ts.length ts.length) ∧ w.grownBy ((((((((w7.setCell ⟨X, 0, none⟩ (.int .i64 k)).setCell ⟨X, 1, none⟩ (.string ⟨f.toArray⟩)).setCell ⟨X, 2, none⟩ (.string ⟨o.toArray⟩)).setCell ⟨X, 3, none⟩ (.int .i64 s)).setCell ⟨X, 4, none⟩ (.string ⟨n.toArray⟩)).setCell ⟨X, 5, none⟩ (.slice none 0 0)).setCell ⟨X, 6, none⟩ (.slice (some ⟨w7.heap.size, 0, none⟩) ts.length ts.length)).alloc (.cells xs.toArray E)) (some b) ∧ SBox ((((((((w7.setCell ⟨X, 0, none⟩ (.int .i64 k)).setCell ⟨X, 1, none⟩ (.string ⟨f.toArray⟩)).setCell ⟨X, 2, none⟩ (.string ⟨o.toArray⟩)).setCell ⟨X, 3, none⟩ (.int .i64 s)).setCell ⟨X, 4, none⟩ (.string ⟨n.toArray⟩)).setCell ⟨X, 5, none⟩ (.slice none 0 0)).setCell ⟨X, 6, none⟩ (.slice (some ⟨w7.heap.size, 0, none⟩) ts.length ts.length)).alloc (.cells xs.toArray E)) b l q ∧
      GlV (fun k => w.heap.size ≤ k) ((((((((w7.setCell ⟨X, 0, none⟩ (.int .i64 k)).setCell ⟨X, 1, none⟩ (.string ⟨f.toArray⟩)).setCell ⟨X, 2, none⟩ (.string ⟨o.toArray⟩)).setCell ⟨X, 3, none⟩ (.int .i64 s)).setCell ⟨X, 4, none⟩ (.string ⟨n.toArray⟩)).setCell ⟨X, 5, none⟩ (.slice none 0 0)).setCell ⟨X, 6, none⟩ (.slice (some ⟨w7.heap.size, 0, none⟩) ts.length ts.length)).alloc (.cells xs.toArray E)) (.agg #[.int .i64 k, .string ⟨f.toArray⟩, .string ⟨o.toArray⟩, .int .i64 s, .string ⟨n.toArray⟩, .slice none 0 0, .slice (some ⟨w7.heap.size, 0, none⟩) ts.length ts.length]) (.mk k f o s n [] ts) := by
  have hne : X ≠ b := by omega
  have hs : Same (fun k => m ≤ k) w7 (((((((w7.setCell ⟨X, 0, none⟩ (.int .i64 k)).setCell ⟨X, 1, none⟩ (.string ⟨f.toArray⟩)).setCell ⟨X, 2, none⟩ (.string ⟨o.toArray⟩)).setCell ⟨X, 3, none⟩ (.int .i64 s)).setCell ⟨X, 4, none⟩ (.string ⟨n.toArray⟩)).setCell ⟨X, 5, none⟩ (.slice none 0 0)).setCell ⟨X, 6, none⟩ (.slice (some ⟨w7.heap.size, 0, none⟩) ts.length ts.length)) := Same.fill7 (by omega) _ _ _ _ _ _ _
  have hz : ((((((((w7.setCell ⟨X, 0, none⟩ (.int .i64 k)).setCell ⟨X, 1, none⟩ (.string ⟨f.toArray⟩)).setCell ⟨X, 2, none⟩ (.string ⟨o.toArray⟩)).setCell ⟨X, 3, none⟩ (.int .i64 s)).setCell ⟨X, 4, none⟩ (.string ⟨n.toArray⟩)).setCell ⟨X, 5, none⟩ (.slice none 0 0)).setCell ⟨X, 6, none⟩ (.slice (some ⟨w7.heap.size, 0, none⟩) ts.length ts.length))).heap.size = w7.heap.size := by simp only [World.size_setCell]
  have hV := XB.fill (.mk k f o s n [] ts) (.slice none 0 0) (.slice (some ⟨w7.heap.size, 0, none⟩) ts.length ts.length)
  have hG : w.grownBy (((((((w7.setCell ⟨X, 0, none⟩ (.int .i64 k)).setCell ⟨X, 1, none⟩ (.string ⟨f.toArray⟩)).setCell ⟨X, 2, none⟩ (.string ⟨o.toArray⟩)).setCell ⟨X, 3, none⟩ (.int .i64 s)).setCell ⟨X, 4, none⟩ (.string ⟨n.toArray⟩)).setCell ⟨X, 5, none⟩ (.slice none 0 0)).setCell ⟨X, 6, none⟩ (.slice (some ⟨w7.heap.size, 0, none⟩) ts.length ts.length)) (some b) := grown_in (grown_in (grown_in (grown_in (grown_in (grown_in (grown_in hg hX _) hX _) hX _) hX _) hX _) hX _) hX _
  have hRR : SBox (((((((w7.setCell ⟨X, 0, none⟩ (.int .i64 k)).setCell ⟨X, 1, none⟩ (.string ⟨f.toArray⟩)).setCell ⟨X, 2, none⟩ (.string ⟨o.toArray⟩)).setCell ⟨X, 3, none⟩ (.int .i64 s)).setCell ⟨X, 4, none⟩ (.string ⟨n.toArray⟩)).setCell ⟨X, 5, none⟩ (.slice none 0 0)).setCell ⟨X, 6, none⟩ (.slice (some ⟨w7.heap.size, 0, none⟩) ts.length ts.length)) b l q := ((((((hR.far hne _).far hne _).far hne _).far hne _).far hne _).far hne _).far hne _
  simp only [Gl.kind, Gl.frm, Gl.rcv, Gl.sort, Gl.name] at hV
  generalize (((((((w7.setCell ⟨X, 0, none⟩ (.int .i64 k)).setCell ⟨X, 1, none⟩ (.string ⟨f.toArray⟩)).setCell ⟨X, 2, none⟩ (.string ⟨o.toArray⟩)).setCell ⟨X, 3, none⟩ (.int .i64 s)).setCell ⟨X, 4, none⟩ (.string ⟨n.toArray⟩)).setCell ⟨X, 5, none⟩ (.slice none 0 0)).setCell ⟨X, 6, none⟩ (.slice (some ⟨w7.heap.size, 0, none⟩) ts.length ts.length)) = w8 at hs hz hV hG hRR ⊢
  have hbel : Below w8.heap.size w8 (w8.alloc (.cells xs.toArray E)) := (Below.refl _ _).alloc (Nat.le_refl _) _
  refine ⟨hV.keep hbel hV.lt, grown_belowB hG hbel, hRR.keep hbel, _, _, rfl, no_strs' _ _, _, _, rfl, Nat.le_refl _, fun _ => ⟨w7.heap.size, 0, rfl, by have := hg.size; omega, ?_⟩⟩
  have h9 : Same (fun k => m ≤ k) w7 (w8.alloc (.cells xs.toArray E)) := hs.trans (by omega) (Same.below hbel)
  refine (hc.keep h9 (fun k hk _ => by show w.heap.size ≤ k; omega)).row 0 fun j u hj => ?_
  rw [Nat.zero_add, World.cell?_alloc_at _ _ _ _ hz.symm]
  simpa using hj
/-- The reader goes on. -/
theorem g_on {w w1 : World} {b : Nat} {l : Str} {q : Nat} (hg : w.grownBy w1 (some b)) (hR : RBox w1 b l q) (n : Nat) :
    w.grownBy (w1.setCell ⟨b, 1, none⟩ (.int .i64 ((q : Int) + n))) (some b) ∧ RBox (w1.setCell ⟨b, 1, none⟩ (.int .i64 ((q : Int) + n))) b l (q + n) := by
  have e : ((q + n : Nat) : Int) = (q : Int) + n := by omega
  rw [← e]
  exact ⟨grown_trans hg (grown_at _ _ _ _), hR.set (q + n)⟩
theorem s_on {w w1 : World} {b : Nat} {l : Str} {q : Nat} {bad : Option Nat} (hg : w.grownBy w1 (some b)) (hR : SBox w1 b l ⟨q, bad⟩) (n : Nat) :
    w.grownBy (w1.setCell ⟨b, 1, none⟩ (.int .i64 ((q : Int) + n))) (some b) ∧ SBox (w1.setCell ⟨b, 1, none⟩ (.int .i64 ((q : Int) + n))) b l ⟨q + n, bad⟩ := by
  have e : ((q + n : Nat) : Int) = (q : Int) + n := by omega
  rw [← e]
  exact ⟨grown_trans hg (grown_at _ _ _ _), hR.set (q + n)⟩
theorem seven_new (w : World) (a b c d e f g : Value) (E : TypeId) : ∀ j u, [a, b, c, d, e, f, g][j]? = some u → (w.alloc (.cells #[a, b, c, d, e, f, g] E)).cell? ((⟨w.heap.size, 0, none⟩ : Addr).add j) = some u := by
  intro j u hj
  rw [Go.WideShapes.add_plain]
  match j, hj with
  | 0, hj | 1, hj | 2, hj | 3, hj | 4, hj | 5, hj | 6, hj => simp at hj; subst hj; simp [go_sem]
  | j + 7, hj => simp at hj
/-- A box of one cell. -/
structure OBox (w : World) (b : Nat) (v : Value) : Prop where
  c : w.cell? ⟨b, 0, none⟩ = some v
  fr : ∀ j, w.frozen? ⟨b, j, none⟩ = false
theorem OBox.lt {w : World} {b : Nat} {v : Value} (h : OBox w b v) : b < w.heap.size := cell_lt h.c
theorem OBox.keep {w w' : World} {b : Nat} {v : Value} (h : OBox w b v) (hb : Below w.heap.size w w') : OBox w' b v := ⟨cell_keep h.c hb, fun j => (hb.frozen (p := ⟨b, j, none⟩) h.lt).trans (h.fr j)⟩
theorem OBox.grown' {w w' : World} {b p : Nat} {v : Value} (h : OBox w b v) (hg : w.grownBy w' (some p)) (hb : b ≠ p) : OBox w' b v :=
  ⟨(World.cell?_of_block (a := ⟨b, 0, none⟩) (hg.block b h.lt (fun e => hb (by injection e)))).trans h.c, fun j => (World.frozen?_of_block (a := ⟨b, j, none⟩) (hg.block b h.lt (fun e => hb (by injection e)))).trans (h.fr j)⟩
theorem OBox.far {w : World} {b : Nat} {v : Value} (h : OBox w b v) {p : Addr} (hp : p.block ≠ b) (u : Value) : OBox (w.setCell p u) b v :=
  ⟨(World.cell?_setCell_far w p _ u hp).trans h.c, fun j => by rw [World.frozen?_setCell]; exact h.fr j⟩
theorem OBox.new (w : World) (v : Value) (E : TypeId) : OBox (w.alloc (.cells #[v] E)) w.heap.size v := ⟨by simp [go_sem], fun j => by simp [go_sem]⟩
end Go.Proofs.YtcacembpegoghaaDoor
