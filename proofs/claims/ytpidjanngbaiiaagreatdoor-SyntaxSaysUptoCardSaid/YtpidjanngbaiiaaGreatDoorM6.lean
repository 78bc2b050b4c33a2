/-
  RwA PrD ExL Val1 ExK
-/
import Derived.Test.YtpidjanngbaiiaaGreatDoorM2
import Derived.Deep.MidRow
import Derived.Test.YtpidjanngbaiiaaGreatDoorM5
import Derived.Laws.StructEq
namespace Go.Proofs.YtpidjanngbaiiaaGreatDoor
open Go.RowKit Go.Proofs Go.Lib
set_option maxRecDepth 100000
set_option maxHeartbeats 32000000

def Fe (n : Nat) {α : Type} (C : List Value → α → Prop) (w : World) (b off : Nat) (l : List α) : Prop :=
 ∀ i t,l[i]? = some t → ∃ cs,cs.length = n ∧ w.rangeAt b (off + i * n) cs ∧ C cs t
theorem rangeAt_keep {D : aj} {w w' : World} (hs : Same D w w') {b o : Nat} (hb : D b) {cs : List Value} (h : w.rangeAt b o cs) : w'.rangeAt b o cs :=
 fun j v hv => hs.cell hb (h j v hv)
theorem nH {B : Nat} {w w' : World} (hb : Below B w w') {b o : Nat} (h : b < B) {cs : List Value} (hr : w.rangeAt b o cs) : w'.rangeAt b o cs :=
 fun j v hv => (hb.cell (p:=⟨b,o + j,none⟩) h).trans (hr j v hv)
theorem yI {w w' : World} {row : Option Nat} (hg : w.grownBy w' row) {b o : Nat} (h : b < w.heap.size) (hr : some b ≠ row) {cs : List Value} (hc : w.rangeAt b o cs) : w'.rangeAt b o cs :=
 fun j v hv => (World.cell?_of_block (a:=⟨b,o + j,none⟩) (hg.block b h hr)).trans (hc j v hv)
theorem rangeAt_drewN {w : World} (n : Nat) {b o : Nat} {cs : List Value} (h : w.rangeAt b o cs) : (w.drewN n).rangeAt b o cs:=fun j v hv => h j v hv
theorem wS {w : World} {b o : Nat} {cs : List Value} (h : w.rangeAt b o cs) (h0 : 0 < cs.length) : b < w.heap.size :=
 cell_lt (h 0 _ (List.getElem?_eq_getElem h0))
theorem Fe.keep {n : Nat} {α : Type} {C C' : List Value → α → Prop} {D : aj} {w w' : World} (hs : Same D w w') {b off : Nat} (hb : D b) {l : List α} (hC : ∀ cs t,t ∈ l → C cs t → C' cs t) (h : Fe n C w b off l) : Fe n C' w' b off l:=by
 intro i t hi
 obtain ⟨cs,h1,h2,h3⟩:=h i t hi
 exact ⟨cs,h1,rangeAt_keep hs hb h2,hC _ _ (List.mem_iff_getElem?.2 ⟨i,hi⟩) h3⟩
structure qh (w : World) (b : Nat) (cs : List Value) : Prop where
 rg : w.rangeAt b 0 cs
 fr : ∀ j,w.frozen? ⟨b,j,none⟩ = false
 lt : b < w.heap.size
namespace qh
set_option maxRecDepth 100000
set_option maxHeartbeats 32000000
theorem keep {w w' : World} {b B : Nat} {cs : List Value} (h : qh w b cs) (hb : Below B w w') (hB : b < B) : qh w' b cs :=
 ⟨nH hb hB h.rg,fun j => (hb.frozen (p:=⟨b,j,none⟩) hB).trans (h.fr j),Nat.lt_of_lt_of_le h.lt hb.size⟩
theorem drewN {w : World} {b : Nat} {cs : List Value} (h : qh w b cs) (n : Nat) : qh (w.drewN n) b cs:=⟨rangeAt_drewN n h.rg,h.fr,h.lt⟩
theorem grown {w w' : World} {b : Nat} {row : Option Nat} {cs : List Value} (h : qh w b cs) (hg : w.grownBy w' row) (hb : some b ≠ row) : qh w' b cs :=
 ⟨yI hg h.lt hb h.rg,fun j => (World.frozen?_of_block (a:=⟨b,j,none⟩) (hg.block b h.lt hb)).trans (h.fr j),Nat.lt_of_lt_of_le h.lt hg.size⟩
theorem far {w : World} {b : Nat} {cs : List Value} (h : qh w b cs) {p : Addr} (hp : p.block ≠ b) (u : Value) : qh (w.setCell p u) b cs :=
 ⟨fun j v hv => (World.cell?_setCell_far w p _ u hp).trans (h.rg j v hv),fun j => by rw [World.frozen?_setCell]; exact h.fr j,by rw [World.size_setCell]; exact h.lt⟩
theorem there {w : World} {b : Nat} {cs : List Value} (h : qh w b cs) : w.there b 0 cs.length:=fun j hj => ⟨h.rg.isSome j hj,by rw [Nat.zero_add]; exact h.fr j⟩
theorem fill {w : World} {b : Nat} {cs : List Value} (h : qh w b cs) (ds : List Value) (hl : ds.length = cs.length) : qh (w.setCells b 0 ds) b ds :=
 ⟨World.rangeAt_setCells_same w b 0 ds (by rw [hl]; exact h.there),fun j => by rw [World.frozen?_setCells]; exact h.fr j,by
  have:=(World.keptBut_setCells b (may:=fun _ => True) ds 0 w (fun _ _ => trivial))
  clear this
  have hs : ∀ (vs : List Value) (o : Nat) (w : World),(w.setCells b o vs).heap.size = w.heap.size:=by
   intro vs
   induction vs with
   | nil => intro o w; rfl
   | cons v r ih => intro o w; rw [World.setCells,ih,World.size_setCell]
  rw [hs]
  exact h.lt⟩
theorem at_ {w : World} {b : Nat} {cs : List Value} (h : qh w b cs) {j : Nat} {v : Value} (hv : cs[j]? = some v) : w.cell? ⟨b,j,none⟩ = some v:=by
 have:=h.rg j v hv
 rwa [Nat.zero_add] at this
end qh
theorem rZ (w : World) (cs : List Value) (C : Array Value) (E : TypeId) (hC : C.toList = cs) : qh (w.alloc (.cells C E)) w.heap.size cs:=by
 subst hC
 refine ⟨fun j v hv => ?_,fun j => by simp [go_sem],by simp⟩
 rw [Nat.zero_add]
 have h : C[j]? = some v:=by rw [← Array.getElem?_toList]; exact hv
 simp [go_sem,h]
theorem qO {B b : Nat} (hb : B ≤ b) : ∀ (vs : List Value) (o : Nat) {a w : World},Below B a w → Below B a (w.setCells b o vs)
 | [],_,_,_,h => h
 | v :: r,o,_,_,h => qO hb r (o + 1) (h.setCell hb v)
theorem fold_fill (cs : List Value) : ∀ (k : Nat) (z : Array Value),k + cs.length = z.size → (cs.zipIdx k).foldl (fun (a : Array Value) (x : Value × Nat) => a.setIfInBounds (0 + x.2) x.1) z = (z.toList.take k ++ cs).toArray:=by
 induction cs with
 | nil =>
  intro k z h
  simp only [List.zipIdx_nil,List.foldl_nil,List.append_nil]
  rw [List.take_of_length_le (by simp at h ⊢; omega),Array.toArray_toList]
 | cons c r ih =>
  intro k z h
  simp only [List.length_cons] at h
  rw [List.zipIdx_cons,List.foldl_cons,ih (k + 1) _ (by simp; omega)]
  simp only [Nat.zero_add,Array.toList_setIfInBounds]
  congr 1
  have hk : k < z.toList.length:=by simp; omega
  rw [List.take_add_one,List.getElem?_set_self (by simpa using hk),List.take_set_of_le (Nat.le_refl _)]
  simp
theorem run_build1 {P : Program} {T E : TypeId} {size bytes : Nat} (R : oD P T E size bytes) (cs : List Value) (hl : cs.length = size) (hs : size ≤ 16777216) (w : World) :
  (Instr.buildSlice T 1 #[(0,.agg cs.toArray)]).run P w = .ok (.slice (some ⟨w.heap.size,0,none⟩) 1 1) (w.alloc (.cells cs.toArray E)):=by
 obtain ⟨i,z,h1,h2,h3,h4,h5⟩:=R.ex
 have hp:=R.pos
 have hf : ∀ (place : Nat → Option (Nat × Nat)) (zs : Array Value),place 0 = some (0,size) → zs.size = size → Instr.fill place zs [(0,.agg cs.toArray)] = some cs.toArray:=by
  intro place zs hp hz
  have hv : (Value.agg cs.toArray).cells = cs.toArray:=rfl
  simp only [Instr.fill,hp,hv]
  have e1 : (Array.foldl (fun (a : Array Value) (x : Value × Nat) => a.setIfInBounds (0 + x.snd) x.fst) zs cs.toArray.zipIdx) = cs.toArray:=by
   rw [← Array.foldl_toList,Array.toList_zipIdx,fold_fill cs 0 zs (by omega)]
   simp
  have e2 : (cs.toArray.size ≠ size || 0 + cs.toArray.size > zs.size) = false:=by simp [hl,hz]
  simp [hl,hz]
  simpa using e1
 simp [Instr.buildSlice,Sem.run_bind,run_underlying R.ht,sizeOf,typeInfo,h1,h3]
 rw [if_neg (by omega),if_neg (by omega)]
 have hz : (zeroValue E).run P w = .ok z w:=by simp [zeroValue,typeInfo,Sem.run_bind,h1,h2]
 rw [hz]
 simp only [Result.andThen_ok]
 rw [hf _ _ (by simp) (by simp)]
 simp [newRow,run_newObj]
theorem wpList_build1 {P : Program} {T E : TypeId} {size bytes : Nat} (R : oD P T E size bytes) {ops : Array Oper} {rest : List Oper} {op : Oper} {a : Act} {w : World} {Q : Exit → Act → World → Prop} (hgd : op.guard = none) (x : Operand) (ho : op.op = .buildSlice T 1 #[(0,x)])
  (cs : List Value) (hl : cs.length = size) (hs : size ≤ 16777216) (hx : a.eval x = .agg cs.toArray)
  (hK : wpList P ops Q rest (a.put op.dst (.slice (some ⟨w.heap.size,0,none⟩) 1 1)) (w.alloc (.cells cs.toArray E))) : wpList P ops Q (op :: rest) a w :=
 wpList_plain hgd fun _ hK' => by
  unfold Oper.wp execOp
  have e : (#[(0,x)] : Array (Nat × Operand)).map (fun (i,x) => (i,a.eval x)) = #[(0,.agg cs.toArray)]:=by simp [hx]
  simp only [ho,e,Sem.run_bind,Sem.run_pure,Result.andThen_ok,run_build1 R cs hl hs w]
  exact hK' _ _ hK
end Go.Proofs.YtpidjanngbaiiaaGreatDoor
namespace Go.Proofs.YtpidjanngbaiiaaGreatDoor
open Go.RowKit Go.Proofs Go.Lib
set_option maxRecDepth 100000
set_option maxHeartbeats 32000000

def Gp (D : aj) (w : World) (cs : List Value) (t : Pr) : Prop:=zn D w (.agg cs.toArray) t
theorem Gp.cells {D : aj} {w : World} {cs : List Value} {t : Pr} (h : Gp D w cs t) : ∃ v1 v2 v3 v4 v5 v6 v7 : Value,cs = [.int .i64 t.kind,.string ⟨t.chan.toArray⟩,.string ⟨t.name.toArray⟩,.string ⟨t.label.toArray⟩,.int .i64 t.xk,.string ⟨t.xn.toArray⟩,.int .i64 t.xs,.int .i64 t.xv,.string ⟨t.xt.toArray⟩,v1,v2,v3,.int .i64 t.tk,.int .i64 t.ts,.string ⟨t.tn.toArray⟩,v4,v5,v6,v7] ∧ uz D w v1 t.af ∧ uz D w v2 t.exprs ∧ bD D w v3 t.names ∧ bD D w v4 t.tl ∧ qZ D w v5 t.ag ∧ bD D w v6 t.labels ∧ yC D w v7 t.kids:=by
 obtain ⟨v1,v2,v3,v4,v5,v6,v7,e,q⟩:=h
 refine ⟨v1,v2,v3,v4,v5,v6,v7,?_,q⟩
 injection e with e
 have:=congrArg Array.toList e
 simpa using this
theorem Gp.len {D : aj} {w : World} {cs : List Value} {t : Pr} (h : Gp D w cs t) : cs.length = 19:=by
 obtain ⟨_,_,_,_,_,_,_,rfl,-⟩:=h.cells
 rfl
theorem Gp.keep {D D' : aj} {w w' : World} {cs : List Value} {t : Pr} (h : Gp D w cs t) (hs : Same D w w') (hD : ∀ b,D b → b < w.heap.size → D' b) : Gp D' w' cs t:=zn.keep h hs hD
theorem Gp.one {D : aj} {w : World} {cs : List Value} {t : Pr} (h : Gp D w cs t) : ∀ v ∈ cs,v.oneCell' = true:=by
 obtain ⟨v1,v2,v3,v4,v5,v6,v7,rfl,q1,q2,q3,q4,q5,q6,q7⟩:=h.cells
 intro v hv
 simp only [List.mem_cons,List.not_mem_nil,or_false] at hv
 rcases hv with rfl | rfl | rfl | rfl | rfl | rfl | rfl | rfl | rfl | rfl | rfl | rfl | rfl | rfl | rfl | rfl | rfl | rfl | rfl
 all_goals (first | rfl | exact q1.one | exact q2.one | exact q3.one | exact q4.one | exact q5.one | exact q6.one | exact q7.one)
def Gh (D : aj) (w : World) (cs : List Value) (d : Df) : Prop :=
 ∃ (v1 v2 v3 v4 : Value) (ps : List Value),cs = .string ⟨d.name.toArray⟩ :: v1 :: v2 :: v3 :: v4 :: ps ∧ bD D w v1 d.vals ∧ rU D w v2 d.sorts ∧ bD D w v3 d.chans ∧ qZ D w v4 d.types ∧ Gp D w ps d.body
theorem Gh.len {D : aj} {w : World} {cs : List Value} {t : Df} (h : Gh D w cs t) : cs.length = 24:=by
 obtain ⟨_,_,_,_,ps,rfl,-,-,-,-,q⟩:=h
 simp only [List.length_cons,q.len]
theorem Gh.keep {D D' : aj} {w w' : World} {cs : List Value} {t : Df} (h : Gh D w cs t) (hs : Same D w w') (hD : ∀ b,D b → b < w.heap.size → D' b) : Gh D' w' cs t:=by
 obtain ⟨v1,v2,v3,v4,ps,e,q1,q2,q3,q4,q5⟩:=h
 exact ⟨v1,v2,v3,v4,ps,e,q1.keep hs hD,q2.keep hs hD,q3.keep hs hD,q4.keep hs hD,q5.keep hs hD⟩
theorem Gh.one {D : aj} {w : World} {cs : List Value} {t : Df} (h : Gh D w cs t) : ∀ v ∈ cs,v.oneCell' = true:=by
 obtain ⟨v1,v2,v3,v4,ps,rfl,q1,q2,q3,q4,q5⟩:=h
 intro v hv
 simp only [List.mem_cons] at hv
 rcases hv with rfl | rfl | rfl | rfl | rfl | hv
 ·rfl
 ·exact q1.one
 ·exact q2.one
 ·exact q3.one
 ·exact q4.one
 ·exact q5.one _ hv
def zX (D : aj) (w : World) (v : Value) (l : List Df) : Prop:=∃ A cap,v = .slice A l.length cap ∧ l.length ≤ cap ∧ (0 < l.length → ∃ b off,A = some ⟨b,off,none⟩ ∧ D b ∧ Fe 24 (Gh D w) w b off l)
theorem zX.keep {D D' : aj} {w w' : World} {v : Value} {l : List Df} (h : zX D w v l) (hs : Same D w w') (hD : ∀ b,D b → b < w.heap.size → D' b) : zX D' w' v l:=by
 obtain ⟨A,cap,h1,h2,h3⟩:=h
 refine ⟨A,cap,h1,h2,fun h0 => ?_⟩
 obtain ⟨b,off,e,hd,hr⟩:=h3 h0
 have hl : b < w.heap.size:=by
  obtain ⟨cs,h4,h5,-⟩:=hr 0 _ (List.getElem?_eq_getElem h0)
  exact wS h5 (by omega)
 exact ⟨b,off,e,hD b hd hl,hr.keep hs hd fun cs t _ h => h.keep hs hD⟩
theorem zX.below {D : aj} {w w' : World} {v : Value} {t : List Df} (h : zX D w v t) (hb : Below w.heap.size w w') : zX D w' v t:=h.keep (Same.below hb) fun _ h _ => h
theorem zX.all {D : aj} {w : World} {v : Value} {t : List Df} (h : zX D w v t) : zX All w v t:=h.keep (Same.refl _ _) fun _ _ _ => trivial
theorem zX.here {D : aj} {w : World} {v : Value} {t : List Df} (h : zX D w v t) : zX (· < w.heap.size) w v t:=h.keep (Same.refl _ _) fun _ _ h => h
def oh (N : Nat) (d : Df) : Prop:=d.name.length ≤ N ∧ d.vals.length ≤ N ∧ (∀ s ∈ d.vals,s.length ≤ N) ∧ d.sorts.length ≤ N ∧ (∀ x ∈ d.sorts,(Lit.int .i64 x).wf = true) ∧ d.chans.length ≤ N ∧ (∀ s ∈ d.chans,s.length ≤ N) ∧ d.types.length ≤ N ∧ (∀ t ∈ d.types,Fit t) ∧ bF N d.body
theorem oh.mono {N M : Nat} (hNM : N ≤ M) {d : Df} (h : oh N d) : oh M d:=by
 obtain ⟨h1,h2,h3,h4,h5,h6,h7,h8,h9,h10⟩:=h
 exact ⟨by omega,by omega,fun s hs => Nat.le_trans (h3 s hs) hNM,by omega,h5,by omega,fun s hs => Nat.le_trans (h7 s hs) hNM,by omega,h9,h10.mono hNM⟩
theorem uD {ops : Array Oper} {rest : List Oper} {op : Oper} {a : Act} {w : World} {Q : Exit → Act → World → Prop} {b off : Nat} {cs : List Value} (h : w.rangeAt b off cs) (hl : cs.length = 24) (hgd : op.guard = none) (x : Operand) (ho : op.op = .load 87 x) (hx : a.eval x = .pointer (some ⟨b,off,none⟩))
  (hK : wpList Tryz.prog ops Q rest (a.put op.dst (.agg cs.toArray)) w) : wpList Tryz.prog ops Q (op :: rest) a w :=
 wpList_load_mid hgd 87 x ho b off hx cs _ h Tryz.underlying87 rfl (by rw [hl]; kernel_rfl) hK
theorem vK {ops : Array Oper} {rest : List Oper} {op : Oper} {a : Act} {w : World} {Q : Exit → Act → World → Prop} {b : Nat} {c0 cs : List Value} (h : qh w b c0) (hl0 : c0.length = 24) (hl : cs.length = 24) (h1 : ∀ v ∈ cs,v.oneCell' = true) (hgd : op.guard = none) (x y : Operand) (ho : op.op = .store 87 x y) (hx : a.eval x = .pointer (some ⟨b,0,none⟩)) (hy : a.eval y = .agg cs.toArray)
  (hK : ∀ W,qh W b cs → (∀ B a0,B ≤ b → Below B a0 w → Below B a0 W) → wpList Tryz.prog ops Q rest (a.put op.dst undef) W) : wpList Tryz.prog ops Q (op :: rest) a w:=by
 refine wpList_store_mid hgd 87 x y ho b 0 cs.toArray hx hy ?_ ?_ (all_oneCell_toArray h1) ?_
 ·have:=h.there
  rw [hl0] at this
  simpa [hl] using this
 ·simp only [List.size_toArray,hl]
  kernel_rfl
 ·rw [List.toList_toArray]
  exact hK _ (h.fill cs (by rw [hl,hl0])) fun B a0 hB hb => qO hB _ _ hb
theorem jb {ops : Array Oper} {rest : List Oper} {op : Oper} {a : Act} {w : World} {Q : Exit → Act → World → Prop} {b off : Nat} {cs : List Value} (h : w.rangeAt b off cs) (hl : cs.length = 19) (hgd : op.guard = none) (x : Operand) (ho : op.op = .load 85 x) (hx : a.eval x = .pointer (some ⟨b,off,none⟩))
  (hK : wpList Tryz.prog ops Q rest (a.put op.dst (.agg cs.toArray)) w) : wpList Tryz.prog ops Q (op :: rest) a w :=
 wpList_load_mid hgd 85 x ho b off hx cs _ h Tryz.underlying85 rfl (by rw [hl]; kernel_rfl) hK
theorem wY {ops : Array Oper} {rest : List Oper} {op : Oper} {a : Act} {w : World} {Q : Exit → Act → World → Prop} {b : Nat} {c0 cs : List Value} (h : qh w b c0) (hl0 : c0.length = 19) (hl : cs.length = 19) (h1 : ∀ v ∈ cs,v.oneCell' = true) (hgd : op.guard = none) (x y : Operand) (ho : op.op = .store 85 x y) (hx : a.eval x = .pointer (some ⟨b,0,none⟩)) (hy : a.eval y = .agg cs.toArray)
  (hK : ∀ W,qh W b cs → (∀ B a0,B ≤ b → Below B a0 w → Below B a0 W) → wpList Tryz.prog ops Q rest (a.put op.dst undef) W) : wpList Tryz.prog ops Q (op :: rest) a w:=by
 refine wpList_store_mid hgd 85 x y ho b 0 cs.toArray hx hy ?_ ?_ (all_oneCell_toArray h1) ?_
 ·have:=h.there
  rw [hl0] at this
  simpa [hl] using this
 ·simp only [List.size_toArray,hl]
  kernel_rfl
 ·rw [List.toList_toArray]
  exact hK _ (h.fill cs (by rw [hl,hl0])) fun B a0 hB hb => qO hB _ _ hb
theorem yQ.range {D : aj} {w : World} {b off : Nat} {t : Pr} (h : yQ D w b off t) : ∃ cs,w.rangeAt b off cs ∧ Gp D w cs t:=by
 obtain ⟨v1,v2,v3,v4,v5,v6,v7,x0,x1,x2,x3,x4,x5,x6,x7,x8,x9,x10,x11,x12,MR,x14,x15,x16,x17,x18,q1,q2,q3,q4,q5,q6,q7⟩:=(vC _ _ _ _ _).1 h
 refine ⟨_,fun j v hj => ?_,JH q1 q2 q3 q4 q5 q6 q7⟩
 match j,hj with
 | 0,hj => simp at hj; subst hj; exact x0
 | 1,hj => simp at hj; subst hj; exact x1
 | 2,hj => simp at hj; subst hj; exact x2
 | 3,hj => simp at hj; subst hj; exact x3
 | 4,hj => simp at hj; subst hj; exact x4
 | 5,hj => simp at hj; subst hj; exact x5
 | 6,hj => simp at hj; subst hj; exact x6
 | 7,hj => simp at hj; subst hj; exact x7
 | 8,hj => simp at hj; subst hj; exact x8
 | 9,hj => simp at hj; subst hj; exact x9
 | 10,hj => simp at hj; subst hj; exact x10
 | 11,hj => simp at hj; subst hj; exact x11
 | 12,hj => simp at hj; subst hj; exact x12
 | 13,hj => simp at hj; subst hj; exact MR
 | 14,hj => simp at hj; subst hj; exact x14
 | 15,hj => simp at hj; subst hj; exact x15
 | 16,hj => simp at hj; subst hj; exact x16
 | 17,hj => simp at hj; subst hj; exact x17
 | 18,hj => simp at hj; subst hj; exact x18
 | j + 19,hj => simp at hj
theorem yQ.of_range {D : aj} {w : World} {b off : Nat} {t : Pr} {cs : List Value} (h : w.rangeAt b off cs) (hc : Gp D w cs t) : yQ D w b off t:=by
 obtain ⟨v1,v2,v3,v4,v5,v6,v7,rfl,q1,q2,q3,q4,q5,q6,q7⟩:=hc.cells
 exact (vC _ _ _ _ _).2 ⟨v1,v2,v3,v4,v5,v6,v7,h 0 _ rfl,h 1 _ rfl,h 2 _ rfl,h 3 _ rfl,h 4 _ rfl,h 5 _ rfl,h 6 _ rfl,h 7 _ rfl,h 8 _ rfl,h 9 _ rfl,h 10 _ rfl,h 11 _ rfl,h 12 _ rfl,h 13 _ rfl,h 14 _ rfl,h 15 _ rfl,h 16 _ rfl,h 17 _ rfl,h 18 _ rfl,q1,q2,q3,q4,q5,q6,q7⟩
end Go.Proofs.YtpidjanngbaiiaaGreatDoor
namespace Go.Proofs.YtpidjanngbaiiaaGreatDoor
open Go.RowKit Go.Proofs
set_option maxRecDepth 100000
set_option maxHeartbeats 32000000

theorem wE (l : Str) (w : World) : Calls Tryz.prog 87 #[.string ⟨l.toArray⟩] w fun e w' => e = .returned (.int .i64 (level l)) ∧ w' = w:=by
 go_enter Tryz.func87,Tryz.ntmps87
 go_wp2_with fail
 all_goals
  go_ret
  refine ⟨EQ ?_,rfl⟩
  simp_all [level]
theorem vJ (l : Str) (w : World) : Calls Tryz.prog 125 #[.string ⟨l.toArray⟩] w fun e w' => e = .returned (.bool (lone l)) ∧ w' = w:=by
 go_enter Tryz.func125,Tryz.ntmps125
 go_wp2_with fail
 all_goals
  go_ret
  refine ⟨ret_bool ?_,rfl⟩
  rw [Bool.eq_iff_iff]
  simp_all [lone]
def rF : List (List Str):=[[[111,114]],[[97,110,100]],[[61,61],[60],[60,61]],[[43],[45],[43,43]],[[42],[47],[37]]]
def yU : List (List Str) → Int → Str → Int
 | [],_,_ => 0
 | x :: r,k,l => if l ∈ x then k + 1 else yU r (k + 1) l
theorem level_find (l : Str) : level l = yU rF 0 l:=by
 simp only [level,yU,rF,List.mem_cons,List.not_mem_nil,or_false]
 repeat' split
 all_goals first | rfl | simp_all
def StrRows (w : World) (v : Value) (ll : List (List Str)) : Prop:=∃ b,v = .slice (some ⟨b,0,none⟩) ll.length ll.length ∧ ∀ i l,ll[i]? = some l → ∃ A n c,w.cell? ⟨b,i,none⟩ = some (.slice A n c) ∧ aF w (.slice A n c) l
theorem levels_any (w : World) : Calls Tryz.prog 92 #[] w fun e w' => (∃ v,e = .returned v ∧ StrRows w' v rF) ∧ Below w.heap.size w w':=by
 go_enter Tryz.func92,Tryz.ntmps92
 go_wp2_with fail
 go_ret
 refine ⟨⟨_,rfl,_,rfl,fun i l hi => ?_⟩,by go_grown⟩
 match i,hi with
 | 0,hi | 1,hi | 2,hi | 3,hi | 4,hi =>
  simp [rF] at hi
  subst hi
  refine ⟨_,_,_,by simp [go_sem]; rfl,⟨_,_,rfl,Nat.le_refl _,fun _ => ⟨_,0,rfl,fun j s hj => ?_⟩⟩⟩
  match j,hj with
  | 0,hj | 1,hj | 2,hj => simp at hj; try (subst hj; simp [go_sem])
  | j + 3,hj => simp at hj
 | i + 5,hi => simp [rF] at hi
theorem uT (l : Str) (w : World) : Calls Tryz.prog 57 #[.string ⟨l.toArray⟩] w fun e w' => e = .returned (.int .i64 (level l)) ∧ Below w.heap.size w w':=by
 obtain ⟨ANS,hA⟩ : ∃ x,level l = x:=⟨_,rfl⟩
 have HA:=zH hA; rw [hA]; clear hA
 go_enter Tryz.func57,Tryz.ntmps57
 go_wp2_with fail
 refine (levels_any w).mono ?_; rintro e w1 ⟨⟨v,rfl,hv⟩,hb⟩
 obtain ⟨b,rfl,hr⟩:=hv
 have HR:=zH hr; clear hr
 go_wp2_with fail
 go_loop [4] (fun i => ∃ k : Nat,k ≤ 5 ∧ i = .int .i64 k ∧ Hid (level l = yU (rF.drop k) k l)) (fun i => 5 - (intOf i).toNat)
 case atStart => exact ⟨0,by omega,rfl,level_find l⟩
 case round =>
  obtain ⟨k,hk,rfl,hf⟩:=hrel
  by_cases hlt : k < 5
  ·obtain ⟨x,hx⟩ : ∃ x,rF[k]? = some x:=⟨_,List.getElem?_eq_getElem (by simpa [rF] using hlt)⟩
   obtain ⟨A,n,c,hc,hs⟩:=HR.out k x hx
   have HF : level l = yU (x :: rF.drop (k + 1)) k l:=by
    have:=hf.out
    rw [List.drop_eq_getElem_cons (by simpa [rF] using hlt)] at this
    rw [(List.getElem?_eq_some_iff.1 hx).2] at this
    exact this
   have Uj:=zH HF
   have hxl : x.length ≤ 100:=by
    have : ∀ y ∈ rF,y.length ≤ 100:=by decide
    exact this x (List.mem_of_getElem? hx)
   have HS:=zH hs
   clear HF hf hx hs
   by_cases hm : l ∈ x
   all_goals
    have HM:=zH hm
    clear hm
    go_wp2_with fail
    refine (nY HS.out (by omega) l).mono ?_; rintro e w2 ⟨rfl,rfl⟩
    have hd : decide (l ∈ x) = decide (l ∈ x):=rfl
    simp only [HM.out,decide_true,decide_false]
    go_wp2_with fail
   ·go_ret
    refine ⟨EQ ?_,hb⟩
    have:=Uj.out
    rw [yU,if_pos HM.out,HA.out] at this
    exact this.symm
   ·go_round
    case rel =>
     refine ⟨k + 1,by omega,by go_num,?_⟩
     have:=Uj.out
     rw [yU,if_neg HM.out] at this
     exact this
    case measure => simp [intOf]; omega
  ·have : k = 5:=by omega
   subst this
   go_wp2_with fail
   go_ret
   refine ⟨EQ ?_,hb⟩
   have:=hf.out
   rw [HA.out] at this
   rw [this]; rfl
theorem Tabs.same {D : aj} {w w' : World} (h : Tabs w) (hs : Same D w w') (h1 : D 3) (h2 : D 4) : Tabs w' :=
 ⟨fun c hc => hs.cell h1 (h.1 c hc),fun i hi => ⟨hs.cell h2 (h.2 i hi).1,hs.cell h2 (h.2 i hi).2⟩⟩
theorem Tabs.lt {w : World} (h : Tabs w) : 3 < w.heap.size ∧ 4 < w.heap.size:=⟨cell_lt (h.1 0 (by decide)),cell_lt (h.2 0 (by decide)).1⟩
structure pJ (p : Nat) (w : World) : Prop where
 t : Tabs w
 n1 : 3 ≠ p
 n2 : 4 ≠ p
theorem pJ.grown {p : Nat} {w w' : World} (h : pJ p w) (hg : w.grownBy w' (some p)) : pJ p w':=⟨h.t.same (jy hg) h.n1 h.n2,h.n1,h.n2⟩
theorem pJ.new {p : Nat} {w : World} (h : Tabs w) (hp : w.heap.size ≤ p) : pJ p w:=⟨h,by have:=h.lt.1; omega,by have:=h.lt.2; omega⟩
theorem valid_any (s : List UInt8) (w : World) (hs : s.length ≤ 9223372036854775807) (hT : Tabs w) :
  Calls Tryz.prog 103 #[.string ⟨s.toArray⟩] w fun e w' => e = .returned (.bool (Lib.validD s)) ∧ Below w.heap.size w w' :=
 Any.utf8_ValidString Tryz.lays196 ⟨s.toArray⟩ w (by rw [Lib.size_eq]; exact hs) hT

theorem DF (s n : Int) (w : World) (t : List UInt8) (hs : t.length ≤ 9223372036854775807) (hT : Tabs w) :
  Calls Tryz.prog 66 #[.agg #[.int .i64 s,.int .i64 n,.string ⟨t.toArray⟩]] w fun e w' => e = .returned (.int .i64 (qQ s n t)) ∧ Below w.heap.size w w':=by
 by_cases h3 : s = 3 ∧ n = 0
 ·obtain ⟨rfl,rfl⟩:=h3
  by_cases hl : 100 < t.length
  ·have hl' : (100 : Int) < (t.length : Int):=by omega
   go_enter Tryz.func66,Tryz.ntmps66
   go_wp2
   go_ret
   exact ⟨by simp [qQ,hl],by go_grown⟩
  ·have hl' : ¬ (100 : Int) < (t.length : Int):=by omega
   go_enter Tryz.func66,Tryz.ntmps66
   go_wp2_with (go_at_call 103; go_must (refine (valid_any t _ hs (hT.below (by go_grown))).mono ?_; rintro e w1 ⟨rfl,hb⟩))
   all_goals (go_ret; refine ⟨?_,step (by go_grown) hb (by simp)⟩)
   all_goals (first | (simp [qQ, *]; done) | (simp_all [qQ]; done))
 ·have hc : ¬ (s = 3 ∧ n = 0):=h3
  go_enter Tryz.func66,Tryz.ntmps66
  go_wp2_with fail
  all_goals (go_ret; refine ⟨?_,by go_grown⟩)
  all_goals (first | (simp [qQ, *]; done) | (simp_all [qQ]; done))
mutual
def gZ : Ex → Nat
 | .mk _ _ _ _ _ ks => 1 + oO ks
def oO : List Ex → Nat
 | [] => 0
 | k :: r => gZ k + oO r
end
theorem DY {ks : List Ex} {c : Ex} (h : c ∈ ks) : gZ c ≤ oO ks:=by
 induction ks with
 | nil => simp at h
 | cons k r ih =>
  simp only [oO]
  rcases List.mem_cons.1 h with rfl | h
  ·omega
  ·have:=ih h; omega
theorem Cm {ks : List Ex} {l : Int} {k : Nat} {c : Ex} (h : ks[k]? = some c) : qm (ks.drop k) l = if (nG c l).1 = 0 then qm (ks.drop (k + 1)) (nG c l).2 else nG c l:=by
 obtain ⟨h1,h2⟩:=List.getElem?_eq_some_iff.1 h
 rw [List.drop_eq_getElem_cons h1,h2]
 rfl
mutual
theorem BF : ∀ (t : Ex) (l : Int),(nG t l).2 ≤ l ∧ ((nG t l).1 = 0 → 0 ≤ l → 0 ≤ (nG t l).2)
 | .mk k n s v x ks,l => by
  unfold nG
  split
  ·exact ⟨by simp only; omega,fun h => by simp at h⟩
  ·split
   ·have:=Fj ks (l - 1)
    exact ⟨by omega,fun h h' => this.2 h (by omega)⟩
   ·exact ⟨by simp only; omega,fun _ h => by simp only; omega⟩
theorem Fj : ∀ (ks : List Ex) (l : Int),(qm ks l).2 ≤ l ∧ ((qm ks l).1 = 0 → 0 ≤ l → 0 ≤ (qm ks l).2)
 | [],l => ⟨Int.le_refl _,fun _ h => h⟩
 | k :: r,l => by
  unfold qm
  have h1:=BF k l
  split
  ·rename_i h0
   have h2:=Fj r (nG k l).2
   exact ⟨by omega,fun h h' => h2.2 h (h1.2 h0 h')⟩
  ·exact h1
end
theorem oz (w : World) (s n : Int) (t : Str) :
  (binOp .eql 26 (.agg #[.int .i64 s,.int .i64 n,.string ⟨t.toArray⟩]) (.agg #[.int .i64 0,.int .i64 0,.string ⟨#[]⟩])).run Tryz.prog w = .ok (.bool (decide (s = 0) && (decide (n = 0) && decide (t = [])))) w:=by
 go_simp
 by_cases h1 : s = 0 <;> by_cases h2 : n = 0 <;> by_cases h3 : t = [] <;> simp [h1,h2,h3]
def bi (t : Ex) (v : Value) (p : Nat) (left : Int) (w : World) : Prop :=
 Calls Tryz.prog 88 #[v,.pointer (some ⟨p,0,none⟩)] w fun e w' => e = .returned (.int .i64 (nG t left).1) ∧ w.grownBy w' (some p) ∧ Left w' p (nG t left).2
abbrev Tf (m : Nat) : Prop:=∀ (t : Ex) (v : Value) (p : Nat) (left : Int) (w : World),gZ t ≤ m → uy (· ≠ p) w v t → bI 1048576 t → 0 ≤ left → left ≤ 60 → Left w p left → pJ p w → bi t v p left w

theorem echeck_z (k : Int) (n : Str) (s vn : Int) (x : Str) (ks : List Ex) (v : Value) (p : Nat) (left : Int) (w : World) (hv : uy (· ≠ p) w v (.mk k n s vn x ks)) (hf : bI 1048576 (.mk k n s vn x ks)) (hleft : 0 ≤ left) (hle : left ≤ 60) (hl : Left w p left) (hT : pJ p w) (h0 : left = 0) :
  bi (.mk k n s vn x ks) v p left w:=by
 unfold bi
 subst h0
 have e : nG (.mk k n s vn x ks) 0 = (2,-1):=by simp [nG]
 rw [e]
 clear e
 have HV:=zH hv
 obtain ⟨A,L,cap,rfl,hk⟩:=hv.one'
 simp only [Ex.kind,Ex.name,Ex.vs,Ex.vn,Ex.vt,Ex.kids] at hk ⊢
 have xC : L = ks.length:=by obtain ⟨A',c',e,-,-⟩:=hk; injection e
 have hfp:=hf.parts
 simp only [Ex.kind,Ex.name,Ex.vs,Ex.vn,Ex.vt,Ex.kids] at hfp
 obtain ⟨-,hn,-,-,hx,hkl,-⟩:=hfp
 have HK:=zH hk
 have HF:=zH hf
 have hp:=hl.lt
 have xe:=zH hl
 obtain ⟨c0,cf⟩:=hl
 clear hk hf hv
 go_enter Tryz.func88,Tryz.ntmps88
 go_wp2_with fail
 all_goals
  go_ret
  exact ⟨rfl,(gW w p _).trans (World.grownBy_alloc _ _ _),(xe.out.set _).keep ((Below.refl _ _).alloc (Nat.le_refl _) _)⟩
theorem echeck_a1 (k : Int) (n : Str) (s vn : Int) (x : Str) (ks : List Ex) (v : Value) (p : Nat) (left : Int) (w : World) (hv : uy (· ≠ p) w v (.mk k n s vn x ks)) (hf : bI 1048576 (.mk k n s vn x ks)) (hleft : 0 ≤ left) (hle : left ≤ 60) (hl : Left w p left) (hT : pJ p w) (h1 : 1 ≤ left) (hone : bM (.mk k n s vn x ks) = 1) (hk : k = 1) (hn0 : n ≠ []) :
  bi (.mk k n s vn x ks) v p left w:=by
 unfold bi
 have e : nG (.mk k n s vn x ks) left = (1,left - 1):=by
  unfold nG
  rw [if_neg (by omega),if_neg (by rw [hone]; decide),hone]
 rw [e]
 clear e hone
 have HV:=zH hv
 obtain ⟨A,L,cap,rfl,hk⟩:=hv.one'
 simp only [Ex.kind,Ex.name,Ex.vs,Ex.vn,Ex.vt,Ex.kids] at hk ⊢
 have xC : L = ks.length:=by obtain ⟨A',c',e,-,-⟩:=hk; injection e
 have hfp:=hf.parts
 simp only [Ex.kind,Ex.name,Ex.vs,Ex.vn,Ex.vt,Ex.kids] at hfp
 obtain ⟨-,hn,-,-,hx,hkl,-⟩:=hfp
 have HK:=zH hk
 have HF:=zH hf
 have hp:=hl.lt
 have xe:=zH hl
 obtain ⟨c0,cf⟩:=hl
 clear hk hf hv
 obtain ⟨BR,hb⟩ : ∃ y,bare (.mk k n s vn x ks) = y:=⟨_,rfl⟩
 have hbr : ∀ w : World,(binOp .eql 26 (.agg #[.int .i64 s,.int .i64 vn,.string ⟨x.toArray⟩]) (.agg #[.int .i64 0,.int .i64 0,.string ⟨#[]⟩])).run Tryz.prog w = .ok (.bool BR) w:=fun w => (oz w s vn x).trans (congrArg (fun y => Result.ok (Value.bool y) w) hb)
 clear hb
 subst hk
 have hE : n.isEmpty = false:=by simpa using hn0
 clear xC
 go_enter Tryz.func88,Tryz.ntmps88
 go_wp2_with fail
 all_goals
  go_ret
  exact ⟨rfl,(gW w p _).trans (World.grownBy_alloc _ _ _),(xe.out.set _).keep ((Below.refl _ _).alloc (Nat.le_refl _) _)⟩
theorem echeck_a2 (k : Int) (n : Str) (s vn : Int) (x : Str) (ks : List Ex) (v : Value) (p : Nat) (left : Int) (w : World) (hv : uy (· ≠ p) w v (.mk k n s vn x ks)) (hf : bI 1048576 (.mk k n s vn x ks)) (hleft : 0 ≤ left) (hle : left ≤ 60) (hl : Left w p left) (hT : pJ p w) (h1 : 1 ≤ left) (hone : bM (.mk k n s vn x ks) = 1) (hk : k = 1) (hn0 : n = []) (hlen : ks.length ≠ 0) :
  bi (.mk k n s vn x ks) v p left w:=by
 unfold bi
 have e : nG (.mk k n s vn x ks) left = (1,left - 1):=by
  unfold nG
  rw [if_neg (by omega),if_neg (by rw [hone]; decide),hone]
 rw [e]
 clear e hone
 have HV:=zH hv
 obtain ⟨A,L,cap,rfl,hk⟩:=hv.one'
 simp only [Ex.kind,Ex.name,Ex.vs,Ex.vn,Ex.vt,Ex.kids] at hk ⊢
 have xC : L = ks.length:=by obtain ⟨A',c',e,-,-⟩:=hk; injection e
 have hfp:=hf.parts
 simp only [Ex.kind,Ex.name,Ex.vs,Ex.vn,Ex.vt,Ex.kids] at hfp
 obtain ⟨-,hn,-,-,hx,hkl,-⟩:=hfp
 have HK:=zH hk
 have HF:=zH hf
 have hp:=hl.lt
 have xe:=zH hl
 obtain ⟨c0,cf⟩:=hl
 clear hk hf hv
 obtain ⟨BR,hb⟩ : ∃ y,bare (.mk k n s vn x ks) = y:=⟨_,rfl⟩
 have hbr : ∀ w : World,(binOp .eql 26 (.agg #[.int .i64 s,.int .i64 vn,.string ⟨x.toArray⟩]) (.agg #[.int .i64 0,.int .i64 0,.string ⟨#[]⟩])).run Tryz.prog w = .ok (.bool BR) w:=fun w => (oz w s vn x).trans (congrArg (fun y => Result.ok (Value.bool y) w) hb)
 clear hb
 subst hk hn0
 have hL0 : ((L : Int) == 0) = false:=by rw [beq_eq_false_iff_ne]; omega
 clear xC
 go_enter Tryz.func88,Tryz.ntmps88
 go_wp2_with fail
 all_goals
  go_ret
  exact ⟨rfl,(gW w p _).trans (World.grownBy_alloc _ _ _),(xe.out.set _).keep ((Below.refl _ _).alloc (Nat.le_refl _) _)⟩
theorem echeck_a (k : Int) (n : Str) (s vn : Int) (x : Str) (ks : List Ex) (v : Value) (p : Nat) (left : Int) (w : World) (hv : uy (· ≠ p) w v (.mk k n s vn x ks)) (hf : bI 1048576 (.mk k n s vn x ks)) (hleft : 0 ≤ left) (hle : left ≤ 60) (hl : Left w p left) (hT : pJ p w) (h1 : 1 ≤ left) (hone : bM (.mk k n s vn x ks) = (qQ s vn x)) (hk : k = 1) (hn0 : n = []) (hlen : ks.length = 0) :
    bi (.mk k n s vn x ks) v p left w:=by
  unfold bi
  have e : nG (.mk k n s vn x ks) left = (qQ s vn x,left - 1):=by
    unfold nG
    have : qQ s vn x ≠ 9:=by
     unfold qQ; repeat' split
     all_goals decide
    rw [if_neg (by omega),hone,if_neg this]
  rw [e]
  clear e hone
  obtain ⟨E,hE⟩ : ∃ y,qQ s vn x = y:=⟨_,rfl⟩
  have HE:=zH hE
  rw [hE]
  clear hE
  have HV:=zH hv
  obtain ⟨A,L,cap,rfl,hk⟩:=hv.one'
  simp only [Ex.kind,Ex.name,Ex.vs,Ex.vn,Ex.vt,Ex.kids] at hk ⊢
  have xC : L = ks.length:=by obtain ⟨A',c',e,-,-⟩:=hk; injection e
  have hfp:=hf.parts
  simp only [Ex.kind,Ex.name,Ex.vs,Ex.vn,Ex.vt,Ex.kids] at hfp
  obtain ⟨-,hn,-,-,hx,hkl,-⟩:=hfp
  have HK:=zH hk
  have HF:=zH hf
  have hp:=hl.lt
  have xe:=zH hl
  obtain ⟨c0,cf⟩:=hl
  clear hk hf hv
  obtain ⟨BR,hb⟩ : ∃ y,bare (.mk k n s vn x ks) = y:=⟨_,rfl⟩
  have hbr : ∀ w : World,(binOp .eql 26 (.agg #[.int .i64 s,.int .i64 vn,.string ⟨x.toArray⟩]) (.agg #[.int .i64 0,.int .i64 0,.string ⟨#[]⟩])).run Tryz.prog w = .ok (.bool BR) w:=fun w => (oz w s vn x).trans (congrArg (fun y => Result.ok (Value.bool y) w) hb)
  clear hb
  subst hk hn0
  clear hn
  have hL0 : L = 0:=by rw [xC]; exact hlen
  subst hL0
  clear xC hlen
  go_enter Tryz.func88,Tryz.ntmps88
  go_wp2_with fail
  obtain ⟨W,hW⟩ : ∃ W,((w.setCell ⟨p,0,none⟩ (.int .i64 (left - 1))).alloc (.cells #[.int .i64 1,.string ⟨#[]⟩,.int .i64 s,.int .i64 vn,.string ⟨x.toArray⟩,.slice A 0 cap] 52)) = W:=⟨_,rfl⟩
  have hg : w.grownBy W (some p):=by subst hW; exact (gW w p _).trans (World.grownBy_alloc _ _ _)
  have hl1 : Left W p (left - 1):=by subst hW; exact (xe.out.set _).keep ((Below.refl _ _).alloc (Nat.le_refl _) _)
  have hT1:=hT.grown hg
  try rw [hW]
  clear hW
  refine (DF s vn W x (by omega) hT1.t).mono ?_
  rw [HE.out]
  rintro e w1 ⟨rfl,hb1⟩
  go_wp2_with fail
  go_ret
  exact ⟨rfl,hg.trans (grown_below hb1 _),hl1.keep hb1⟩
theorem echeck_b3 (k : Int) (n : Str) (s vn : Int) (x : Str) (ks : List Ex) (v : Value) (p : Nat) (left : Int) (w : World) (hv : uy (· ≠ p) w v (.mk k n s vn x ks)) (hf : bI 1048576 (.mk k n s vn x ks)) (hleft : 0 ≤ left) (hle : left ≤ 60) (hl : Left w p left) (hT : pJ p w) (h1 : 1 ≤ left) (hone : bM (.mk k n s vn x ks) = 1) (hk : k = 2) (hb : bare (.mk k n s vn x ks) = false)  :
  bi (.mk k n s vn x ks) v p left w:=by
 unfold bi
 have e : nG (.mk k n s vn x ks) left = (1,left - 1):=by
  unfold nG
  rw [if_neg (by omega),if_neg (by rw [hone]; decide),hone]
 rw [e]
 clear e hone
 have HV:=zH hv
 obtain ⟨A,L,cap,rfl,hk⟩:=hv.one'
 simp only [Ex.kind,Ex.name,Ex.vs,Ex.vn,Ex.vt,Ex.kids] at hk ⊢
 have xC : L = ks.length:=by obtain ⟨A',c',e,-,-⟩:=hk; injection e
 have hfp:=hf.parts
 simp only [Ex.kind,Ex.name,Ex.vs,Ex.vn,Ex.vt,Ex.kids] at hfp
 obtain ⟨-,hn,-,-,hx,hkl,-⟩:=hfp
 have HK:=zH hk
 have HF:=zH hf
 have hp:=hl.lt
 have xe:=zH hl
 obtain ⟨c0,cf⟩:=hl
 clear hk hf hv
 subst hk
 have hbr : ∀ w : World,(binOp .eql 26 (.agg #[.int .i64 s,.int .i64 vn,.string ⟨x.toArray⟩]) (.agg #[.int .i64 0,.int .i64 0,.string ⟨#[]⟩])).run Tryz.prog w = .ok (.bool false) w:=fun w => (oz w s vn x).trans (congrArg (fun y => Result.ok (Value.bool y) w) hb)
 clear hb xC
 go_enter Tryz.func88,Tryz.ntmps88
 go_wp2_with fail
 all_goals
  go_ret
  exact ⟨rfl,(gW w p _).trans (World.grownBy_alloc _ _ _),(xe.out.set _).keep ((Below.refl _ _).alloc (Nat.le_refl _) _)⟩
theorem echeck_b2 (k : Int) (n : Str) (s vn : Int) (x : Str) (ks : List Ex) (v : Value) (p : Nat) (left : Int) (w : World) (hv : uy (· ≠ p) w v (.mk k n s vn x ks)) (hf : bI 1048576 (.mk k n s vn x ks)) (hleft : 0 ≤ left) (hle : left ≤ 60) (hl : Left w p left) (hT : pJ p w) (h1 : 1 ≤ left) (hone : bM (.mk k n s vn x ks) = 1) (hk : k = 2) (hb : bare (.mk k n s vn x ks) = true) (hlen : ks.length ≠ 0) :
  bi (.mk k n s vn x ks) v p left w:=by
 unfold bi
 have e : nG (.mk k n s vn x ks) left = (1,left - 1):=by
  unfold nG
  rw [if_neg (by omega),if_neg (by rw [hone]; decide),hone]
 rw [e]
 clear e hone
 have HV:=zH hv
 obtain ⟨A,L,cap,rfl,hk⟩:=hv.one'
 simp only [Ex.kind,Ex.name,Ex.vs,Ex.vn,Ex.vt,Ex.kids] at hk ⊢
 have xC : L = ks.length:=by obtain ⟨A',c',e,-,-⟩:=hk; injection e
 have hfp:=hf.parts
 simp only [Ex.kind,Ex.name,Ex.vs,Ex.vn,Ex.vt,Ex.kids] at hfp
 obtain ⟨-,hn,-,-,hx,hkl,-⟩:=hfp
 have HK:=zH hk
 have HF:=zH hf
 have hp:=hl.lt
 have xe:=zH hl
 obtain ⟨c0,cf⟩:=hl
 clear hk hf hv
 subst hk
 have hbr : ∀ w : World,(binOp .eql 26 (.agg #[.int .i64 s,.int .i64 vn,.string ⟨x.toArray⟩]) (.agg #[.int .i64 0,.int .i64 0,.string ⟨#[]⟩])).run Tryz.prog w = .ok (.bool true) w:=fun w => (oz w s vn x).trans (congrArg (fun y => Result.ok (Value.bool y) w) hb)
 clear hb
 have hL0 : ((L : Int) == 0) = false:=by rw [beq_eq_false_iff_ne]; omega
 clear xC
 go_enter Tryz.func88,Tryz.ntmps88
 go_wp2_with fail
 all_goals
  go_ret
  exact ⟨rfl,(gW w p _).trans (World.grownBy_alloc _ _ _),(xe.out.set _).keep ((Below.refl _ _).alloc (Nat.le_refl _) _)⟩
theorem echeck_b1 (E : Int) (k : Int) (n : Str) (s vn : Int) (x : Str) (ks : List Ex) (v : Value) (p : Nat) (left : Int) (w : World) (hv : uy (· ≠ p) w v (.mk k n s vn x ks)) (hf : bI 1048576 (.mk k n s vn x ks)) (hleft : 0 ≤ left) (hle : left ≤ 60) (hl : Left w p left) (hT : pJ p w) (h1 : 1 ≤ left) (hone : bM (.mk k n s vn x ks) = E) (hk : k = 2) (hb : bare (.mk k n s vn x ks) = true) (hlen : ks.length = 0) (hE : E = if ah n = true then 0 else 1) :
  bi (.mk k n s vn x ks) v p left w:=by
 unfold bi
 have e : nG (.mk k n s vn x ks) left = (E,left - 1):=by
  unfold nG
  have : E ≠ 9:=by rw [hE]; split <;> decide
  rw [if_neg (by omega),hone,if_neg this]
 rw [e]
 clear e hone
 have HV:=zH hv
 obtain ⟨A,L,cap,rfl,hk⟩:=hv.one'
 simp only [Ex.kind,Ex.name,Ex.vs,Ex.vn,Ex.vt,Ex.kids] at hk ⊢
 have xC : L = ks.length:=by obtain ⟨A',c',e,-,-⟩:=hk; injection e
 have hfp:=hf.parts
 simp only [Ex.kind,Ex.name,Ex.vs,Ex.vn,Ex.vt,Ex.kids] at hfp
 obtain ⟨-,hn,-,-,hx,hkl,-⟩:=hfp
 have HK:=zH hk
 have HF:=zH hf
 have hp:=hl.lt
 have xe:=zH hl
 obtain ⟨c0,cf⟩:=hl
 clear hk hf hv
 subst hk
 have hbr : ∀ w : World,(binOp .eql 26 (.agg #[.int .i64 s,.int .i64 vn,.string ⟨x.toArray⟩]) (.agg #[.int .i64 0,.int .i64 0,.string ⟨#[]⟩])).run Tryz.prog w = .ok (.bool true) w:=fun w => (oz w s vn x).trans (congrArg (fun y => Result.ok (Value.bool y) w) hb)
 clear hb
 have hL0 : L = 0:=by rw [xC]; exact hlen
 subst hL0
 clear xC hlen
 obtain ⟨B,hB⟩ : ∃ y,ah n = y:=⟨_,rfl⟩
 have HB:=zH hB
 rw [hB] at hE
 clear hB
 go_enter Tryz.func88,Tryz.ntmps88
 go_wp2_with fail
 obtain ⟨W,hW⟩ : ∃ W,((w.setCell ⟨p,0,none⟩ (.int .i64 (left - 1))).alloc (.cells #[.int .i64 2,.string ⟨n.toArray⟩,.int .i64 s,.int .i64 vn,.string ⟨x.toArray⟩,.slice A 0 cap] 52)) = W:=⟨_,rfl⟩
 have hg : w.grownBy W (some p):=by subst hW; exact (gW w p _).trans (World.grownBy_alloc _ _ _)
 have hl1 : Left W p (left - 1):=by subst hW; exact (xe.out.set _).keep ((Below.refl _ _).alloc (Nat.le_refl _) _)
 have XB : jf W w.heap.size (.mk 2 n s vn x ks) (.slice A 0 cap):=by subst hW; exact ⟨by simp [go_sem,Ex.kind],by simp [go_sem,Ex.name],by simp [go_sem,Ex.vs],by simp [go_sem,Ex.vn],by simp [go_sem,Ex.vt],by simp [go_sem],fun j => by simp [go_sem],by simp⟩
 try rw [hW]
 clear hW
 refine (ig n W (by omega)).mono ?_
 rw [HB.out]
 rintro e w1 ⟨rfl,hb1⟩
 obtain ⟨x0,x1,x2,x3,x4,x5,x6,x7⟩:=XB.keep hb1 XB.lt
 simp only [Ex.kind,Ex.name,Ex.vs,Ex.vn,Ex.vt] at x0 x1 x2 x3 x4
 clear HB
 cases B
 all_goals
  simp only [if_true,Bool.false_eq_true,if_false] at hE
  subst hE
  go_wp2_with fail
  go_ret
  exact ⟨rfl,hg.trans (grown_below hb1 _),hl1.keep hb1⟩
theorem echeck_o (k : Int) (n : Str) (s vn : Int) (x : Str) (ks : List Ex) (v : Value) (p : Nat) (left : Int) (w : World) (hv : uy (· ≠ p) w v (.mk k n s vn x ks)) (hf : bI 1048576 (.mk k n s vn x ks)) (hleft : 0 ≤ left) (hle : left ≤ 60) (hl : Left w p left) (hT : pJ p w) (h1 : 1 ≤ left) (hone : bM (.mk k n s vn x ks) = 1) (k1 : k ≠ 1) (k2 : k ≠ 2) (k3 : k ≠ 3) :
  bi (.mk k n s vn x ks) v p left w:=by
 unfold bi
 have e : nG (.mk k n s vn x ks) left = (1,left - 1):=by
  unfold nG
  rw [if_neg (by omega),if_neg (by rw [hone]; decide),hone]
 rw [e]
 clear e hone
 have HV:=zH hv
 obtain ⟨A,L,cap,rfl,hk⟩:=hv.one'
 simp only [Ex.kind,Ex.name,Ex.vs,Ex.vn,Ex.vt,Ex.kids] at hk ⊢
 have xC : L = ks.length:=by obtain ⟨A',c',e,-,-⟩:=hk; injection e
 have hfp:=hf.parts
 simp only [Ex.kind,Ex.name,Ex.vs,Ex.vn,Ex.vt,Ex.kids] at hfp
 obtain ⟨-,hn,-,-,hx,hkl,-⟩:=hfp
 have HK:=zH hk
 have HF:=zH hf
 have hp:=hl.lt
 have xe:=zH hl
 obtain ⟨c0,cf⟩:=hl
 clear hk hf hv
 obtain ⟨BR,hb⟩ : ∃ y,bare (.mk k n s vn x ks) = y:=⟨_,rfl⟩
 have hbr : ∀ w : World,(binOp .eql 26 (.agg #[.int .i64 s,.int .i64 vn,.string ⟨x.toArray⟩]) (.agg #[.int .i64 0,.int .i64 0,.string ⟨#[]⟩])).run Tryz.prog w = .ok (.bool BR) w:=fun w => (oz w s vn x).trans (congrArg (fun y => Result.ok (Value.bool y) w) hb)
 clear hb
 have e1 : (k == 1) = false:=by rw [beq_eq_false_iff_ne]; exact k1
 have e2 : (k == 2) = false:=by rw [beq_eq_false_iff_ne]; exact k2
 have e3 : (k == 3) = false:=by rw [beq_eq_false_iff_ne]; exact k3
 clear xC
 go_enter Tryz.func88,Tryz.ntmps88
 go_wp2_with fail
 all_goals
  go_ret
  exact ⟨rfl,(gW w p _).trans (World.grownBy_alloc _ _ _),(xe.out.set _).keep ((Below.refl _ _).alloc (Nat.le_refl _) _)⟩
theorem echeck_c1 (k : Int) (n : Str) (s vn : Int) (x : Str) (ks : List Ex) (v : Value) (p : Nat) (left : Int) (w : World) (hv : uy (· ≠ p) w v (.mk k n s vn x ks)) (hf : bI 1048576 (.mk k n s vn x ks)) (hleft : 0 ≤ left) (hle : left ≤ 60) (hl : Left w p left) (hT : pJ p w) (h1 : 1 ≤ left) (hone : bM (.mk k n s vn x ks) = 1) (hk : k = 3) (hb : bare (.mk k n s vn x ks) = false)  :
  bi (.mk k n s vn x ks) v p left w:=by
 unfold bi
 have e : nG (.mk k n s vn x ks) left = (1,left - 1):=by
  unfold nG
  rw [if_neg (by omega),if_neg (by rw [hone]; decide),hone]
 rw [e]
 clear e hone
 have HV:=zH hv
 obtain ⟨A,L,cap,rfl,hk⟩:=hv.one'
 simp only [Ex.kind,Ex.name,Ex.vs,Ex.vn,Ex.vt,Ex.kids] at hk ⊢
 have xC : L = ks.length:=by obtain ⟨A',c',e,-,-⟩:=hk; injection e
 have hfp:=hf.parts
 simp only [Ex.kind,Ex.name,Ex.vs,Ex.vn,Ex.vt,Ex.kids] at hfp
 obtain ⟨-,hn,-,-,hx,hkl,-⟩:=hfp
 have HK:=zH hk
 have HF:=zH hf
 have hp:=hl.lt
 have xe:=zH hl
 obtain ⟨c0,cf⟩:=hl
 clear hk hf hv
 subst hk
 have hbr : ∀ w : World,(binOp .eql 26 (.agg #[.int .i64 s,.int .i64 vn,.string ⟨x.toArray⟩]) (.agg #[.int .i64 0,.int .i64 0,.string ⟨#[]⟩])).run Tryz.prog w = .ok (.bool false) w:=fun w => (oz w s vn x).trans (congrArg (fun y => Result.ok (Value.bool y) w) hb)
 clear hb xC
 go_enter Tryz.func88,Tryz.ntmps88
 go_wp2_with fail
 all_goals
  go_ret
  exact ⟨rfl,(gW w p _).trans (World.grownBy_alloc _ _ _),(xe.out.set _).keep ((Below.refl _ _).alloc (Nat.le_refl _) _)⟩
theorem echeck_c2 (k : Int) (n : Str) (s vn : Int) (x : Str) (ks : List Ex) (v : Value) (p : Nat) (left : Int) (w : World) (hv : uy (· ≠ p) w v (.mk k n s vn x ks)) (hf : bI 1048576 (.mk k n s vn x ks)) (hleft : 0 ≤ left) (hle : left ≤ 60) (hl : Left w p left) (hT : pJ p w) (h1 : 1 ≤ left) (hone : bM (.mk k n s vn x ks) = 1) (hk : k = 3) (hb : bare (.mk k n s vn x ks) = true) (hS : lone n = true) (hlv : level n = 0) (hlen : ks.length ≠ 1) :
  bi (.mk k n s vn x ks) v p left w:=by
 unfold bi
 have e : nG (.mk k n s vn x ks) left = (1,left - 1):=by
  unfold nG
  rw [if_neg (by omega),if_neg (by rw [hone]; decide),hone]
 rw [e]
 clear e hone
 have HV:=zH hv
 obtain ⟨A,L,cap,rfl,hk⟩:=hv.one'
 simp only [Ex.kind,Ex.name,Ex.vs,Ex.vn,Ex.vt,Ex.kids] at hk ⊢
 have xC : L = ks.length:=by obtain ⟨A',c',e,-,-⟩:=hk; injection e
 have hfp:=hf.parts
 simp only [Ex.kind,Ex.name,Ex.vs,Ex.vn,Ex.vt,Ex.kids] at hfp
 obtain ⟨-,hn,-,-,hx,hkl,-⟩:=hfp
 have HK:=zH hk
 have HF:=zH hf
 have hp:=hl.lt
 have xe:=zH hl
 obtain ⟨c0,cf⟩:=hl
 clear hk hf hv
 subst hk
 have hbr : ∀ w : World,(binOp .eql 26 (.agg #[.int .i64 s,.int .i64 vn,.string ⟨x.toArray⟩]) (.agg #[.int .i64 0,.int .i64 0,.string ⟨#[]⟩])).run Tryz.prog w = .ok (.bool true) w:=fun w => (oz w s vn x).trans (congrArg (fun y => Result.ok (Value.bool y) w) hb)
 clear hb
 have hL1 : ((L : Int) == 1) = false:=by rw [beq_eq_false_iff_ne]; omega
 clear xC
 have HS:=zH hS
 clear hS
 have ES:=zH hlv
 clear hlv
 go_enter Tryz.func88,Tryz.ntmps88
 go_wp2_with fail
 refine (vJ n _).mono ?_
 rw [HS.out]
 rintro e w1 ⟨rfl,rfl⟩
 go_wp2_with fail
 refine (wE n _).mono ?_
 rw [ES.out]
 rintro e w1 ⟨rfl,rfl⟩
 go_wp2_with fail
 all_goals
  go_ret
  exact ⟨rfl,(gW w p _).trans (World.grownBy_alloc _ _ _),(xe.out.set _).keep ((Below.refl _ _).alloc (Nat.le_refl _) _)⟩
theorem echeck_c3 (k : Int) (n : Str) (s vn : Int) (x : Str) (ks : List Ex) (v : Value) (p : Nat) (left : Int) (w : World) (hv : uy (· ≠ p) w v (.mk k n s vn x ks)) (hf : bI 1048576 (.mk k n s vn x ks)) (hleft : 0 ≤ left) (hle : left ≤ 60) (hl : Left w p left) (hT : pJ p w) (h1 : 1 ≤ left) (hone : bM (.mk k n s vn x ks) = 1) (hk : k = 3) (hb : bare (.mk k n s vn x ks) = true) (hS : lone n = false) (hlv : level n = 0) :
  bi (.mk k n s vn x ks) v p left w:=by
 unfold bi
 have e : nG (.mk k n s vn x ks) left = (1,left - 1):=by
  unfold nG
  rw [if_neg (by omega),if_neg (by rw [hone]; decide),hone]
 rw [e]
 clear e hone
 have HV:=zH hv
 obtain ⟨A,L,cap,rfl,hk⟩:=hv.one'
 simp only [Ex.kind,Ex.name,Ex.vs,Ex.vn,Ex.vt,Ex.kids] at hk ⊢
 have xC : L = ks.length:=by obtain ⟨A',c',e,-,-⟩:=hk; injection e
 have hfp:=hf.parts
 simp only [Ex.kind,Ex.name,Ex.vs,Ex.vn,Ex.vt,Ex.kids] at hfp
 obtain ⟨-,hn,-,-,hx,hkl,-⟩:=hfp
 have HK:=zH hk
 have HF:=zH hf
 have hp:=hl.lt
 have xe:=zH hl
 obtain ⟨c0,cf⟩:=hl
 clear hk hf hv
 subst hk
 have hbr : ∀ w : World,(binOp .eql 26 (.agg #[.int .i64 s,.int .i64 vn,.string ⟨x.toArray⟩]) (.agg #[.int .i64 0,.int .i64 0,.string ⟨#[]⟩])).run Tryz.prog w = .ok (.bool true) w:=fun w => (oz w s vn x).trans (congrArg (fun y => Result.ok (Value.bool y) w) hb)
 clear hb xC
 have HS:=zH hS
 clear hS
 have ES:=zH hlv
 clear hlv
 go_enter Tryz.func88,Tryz.ntmps88
 go_wp2_with fail
 refine (vJ n _).mono ?_
 rw [HS.out]
 rintro e w1 ⟨rfl,rfl⟩
 go_wp2_with fail
 refine (wE n _).mono ?_
 rw [ES.out]
 rintro e w1 ⟨rfl,rfl⟩
 go_wp2_with fail
 all_goals
  go_ret
  exact ⟨rfl,(gW w p _).trans (World.grownBy_alloc _ _ _),(xe.out.set _).keep ((Below.refl _ _).alloc (Nat.le_refl _) _)⟩
theorem echeck_c4 (k : Int) (n : Str) (s vn : Int) (x : Str) (ks : List Ex) (v : Value) (p : Nat) (left : Int) (w : World) (hv : uy (· ≠ p) w v (.mk k n s vn x ks)) (hf : bI 1048576 (.mk k n s vn x ks)) (hleft : 0 ≤ left) (hle : left ≤ 60) (hl : Left w p left) (hT : pJ p w) (h1 : 1 ≤ left) (hone : bM (.mk k n s vn x ks) = 1) (hk : k = 3) (hb : bare (.mk k n s vn x ks) = true) (hS : lone n = false) (hlv : 0 < level n) (hlen : ks.length ≠ 2) :
  bi (.mk k n s vn x ks) v p left w:=by
 unfold bi
 have e : nG (.mk k n s vn x ks) left = (1,left - 1):=by
  unfold nG
  rw [if_neg (by omega),if_neg (by rw [hone]; decide),hone]
 rw [e]
 clear e hone
 have HV:=zH hv
 obtain ⟨A,L,cap,rfl,hk⟩:=hv.one'
 simp only [Ex.kind,Ex.name,Ex.vs,Ex.vn,Ex.vt,Ex.kids] at hk ⊢
 have xC : L = ks.length:=by obtain ⟨A',c',e,-,-⟩:=hk; injection e
 have hfp:=hf.parts
 simp only [Ex.kind,Ex.name,Ex.vs,Ex.vn,Ex.vt,Ex.kids] at hfp
 obtain ⟨-,hn,-,-,hx,hkl,-⟩:=hfp
 have HK:=zH hk
 have HF:=zH hf
 have hp:=hl.lt
 have xe:=zH hl
 obtain ⟨c0,cf⟩:=hl
 clear hk hf hv
 subst hk
 have hbr : ∀ w : World,(binOp .eql 26 (.agg #[.int .i64 s,.int .i64 vn,.string ⟨x.toArray⟩]) (.agg #[.int .i64 0,.int .i64 0,.string ⟨#[]⟩])).run Tryz.prog w = .ok (.bool true) w:=fun w => (oz w s vn x).trans (congrArg (fun y => Result.ok (Value.bool y) w) hb)
 clear hb
 have hL2 : ((L : Int) == 2) = false:=by rw [beq_eq_false_iff_ne]; omega
 clear xC
 obtain ⟨V,hV⟩ : ∃ y,level n = y:=⟨_,rfl⟩
 rw [hV] at hlv
 have ES:=zH hV
 clear hV
 have HS:=zH hS
 clear hS
 go_enter Tryz.func88,Tryz.ntmps88
 go_wp2_with fail
 refine (vJ n _).mono ?_
 rw [HS.out]
 rintro e w1 ⟨rfl,rfl⟩
 go_wp2_with fail
 refine (wE n _).mono ?_
 rw [ES.out]
 rintro e w1 ⟨rfl,rfl⟩
 go_wp2_with fail
 all_goals
  go_ret
  exact ⟨rfl,(gW w p _).trans (World.grownBy_alloc _ _ _),(xe.out.set _).keep ((Below.refl _ _).alloc (Nat.le_refl _) _)⟩
theorem echeck_c (m : Nat) (ih : Tf m) (k : Int) (n : Str) (s vn : Int) (x : Str) (ks : List Ex) (v : Value) (p : Nat) (left : Int) (w : World) (hm : gZ (.mk k n s vn x ks) ≤ m + 1) (hv : uy (· ≠ p) w v (.mk k n s vn x ks)) (hf : bI 1048576 (.mk k n s vn x ks)) (hleft : 0 ≤ left) (hle : left ≤ 60) (hl : Left w p left) (hT : pJ p w) (h1 : 1 ≤ left) (hone : bM (.mk k n s vn x ks) = 9) (hk : k = 3) (hb : bare (.mk k n s vn x ks) = true) (hS : lone n = true) (hlen : ks.length = 1) :
  bi (.mk k n s vn x ks) v p left w:=by
 unfold bi
 have e : nG (.mk k n s vn x ks) left = qm ks (left - 1):=by
  unfold nG
  rw [if_neg (by omega),if_pos hone]
 rw [e]
 clear e hone
 have HV:=zH hv
 obtain ⟨A,L,cap,rfl,hk⟩:=hv.one'
 simp only [Ex.kind,Ex.name,Ex.vs,Ex.vn,Ex.vt,Ex.kids] at hk ⊢
 have xC : L = ks.length:=by obtain ⟨A',c',e,-,-⟩:=hk; injection e
 have hfp:=hf.parts
 simp only [Ex.kind,Ex.name,Ex.vs,Ex.vn,Ex.vt,Ex.kids] at hfp
 obtain ⟨-,hn,-,-,hx,hkl,-⟩:=hfp
 have HK:=zH hk
 have HF:=zH hf
 have hp:=hl.lt
 have xe:=zH hl
 obtain ⟨c0,cf⟩:=hl
 clear hk hf hv
 subst hk
 have hbr : ∀ w : World,(binOp .eql 26 (.agg #[.int .i64 s,.int .i64 vn,.string ⟨x.toArray⟩]) (.agg #[.int .i64 0,.int .i64 0,.string ⟨#[]⟩])).run Tryz.prog w = .ok (.bool true) w:=fun w => (oz w s vn x).trans (congrArg (fun y => Result.ok (Value.bool y) w) hb)
 clear hb
 have HS:=zH hS
 clear hS
 have Gj:=zH xC
 have hLb : L ≤ 1048576:=by omega
 have hL1 : ((L : Int) == 1) = true:=by rw [beq_iff_eq]; omega
 clear xC hlen
 go_enter Tryz.func88,Tryz.ntmps88
 go_wp2_with fail
 refine (vJ n _).mono ?_
 rw [HS.out]
 rintro e w1 ⟨rfl,rfl⟩
 go_wp2_with fail

 obtain ⟨W,hW⟩ : ∃ W,((w.setCell ⟨p,0,none⟩ (.int .i64 (left - 1))).alloc (.cells #[.int .i64 3,.string ⟨n.toArray⟩,.int .i64 s,.int .i64 vn,.string ⟨x.toArray⟩,.slice A L cap] 52)) = W:=⟨_,rfl⟩
 have hg : w.grownBy W (some p):=by subst hW; exact (gW w p _).trans (World.grownBy_alloc _ _ _)
 have hl1 : Left W p (left - 1):=by subst hW; exact (xe.out.set _).keep ((Below.refl _ _).alloc (Nat.le_refl _) _)
 have hT1:=hT.grown hg
 try rw [hW]
 clear hW
 go_loopw [91] (fun i wr => ∃ (j : Nat) (lk : Int),j ≤ L ∧ i = .int .i64 j ∧ 0 ≤ lk ∧ lk ≤ left - 1 ∧ Left wr p lk ∧ w.grownBy wr (some p) ∧ pJ p wr ∧ Hid (qm ks (left - 1) = qm (ks.drop j) lk)) (fun i _ => L - (intOf i).toNat)
 case atStart => exact ⟨0,left - 1,by omega,rfl,by omega,by omega,hl1,hg,hT1,rfl⟩
 case round =>
  clear hg hl1 hT1
  obtain ⟨j,lk,hj,rfl,hlk0,FN,hl1,hg,hT1,hs⟩:=hrel
  by_cases hlt : j < L
  ·obtain ⟨c,hc'⟩ : ∃ y,ks[j]? = some y:=⟨_,List.getElem?_eq_getElem (by have:=Gj.out; omega)⟩
   have vY:=zH hc'
   obtain ⟨-,-,b,off,A1,n1,p1,rfl,hbp,y0,y1,y2,y3,y4,y5,hk'⟩:=pF (HK.out.keep (D':=(· ≠ p)) (jy hg) (fun b h _ => h)) hc'
   have rP:=zH hk'
   clear hk' hc'
   have hcp : gZ c ≤ m:=by have h1:=DY (az vY.out); have h2 : 1 + oO ks ≤ m + 1:=hm; omega
   have hcf : bI 1048576 c:=HF.out.parts.2.2.2.2.2.2 c (az vY.out)
   obtain ⟨wa,mQ⟩ : ∃ y,wr.alloc (.cells #[.int .i64 c.kind,.string ⟨c.name.toArray⟩,.int .i64 c.vs,.int .i64 c.vn,.string ⟨c.vt.toArray⟩,.slice A1 n1 p1] 52) = y:=⟨_,rfl⟩
   have hba : Below wr.heap.size wr wa:=by subst mQ; exact (Below.refl _ _).alloc (Nat.le_refl _) _
   have hla:=hl1.keep hba
   have hga:=hg.trans (grown_below hba _)
   have hTa:=hT1.grown (grown_below hba _)
   have hkb : jf wa wr.heap.size c (.slice A1 n1 p1):=by subst mQ; exact pG wr c _ _
   obtain ⟨k0,k1,k2,k3,k4,k5,k6,k7⟩:=id hkb
   obtain ⟨R,hR⟩ : ∃ x,nG c lk = x:=⟨_,rfl⟩
   have HR:=zH hR
   have hstep:=hs.out
   rw [Cm vY.out,hR] at hstep
   have hcall:=ih c (.agg #[.int .i64 c.kind,.string ⟨c.name.toArray⟩,.int .i64 c.vs,.int .i64 c.vn,.string ⟨c.vt.toArray⟩,.slice A1 n1 p1]) p lk wa hcp ((rD rP.out).keep (Same.below hba) (fun b h _ => h)) hcf hlk0 (by omega) hla hTa
   unfold bi at hcall
   rw [hR] at hcall
   have dP:=zH hcall
   have hle2:=BF c lk
   rw [hR] at hle2
   have EY:=zH hle2
   clear hR hcall hs hle2
   by_cases he : R.1 = 0
   ·have hp2 : 0 ≤ R.2 ∧ R.2 ≤ lk:=⟨EY.out.2 he hlk0,EY.out.1⟩
    rw [if_pos he] at hstep
    have HST:=zH hstep
    have hE : (R.1 != 0) = false:=by rw [bne_eq_false_iff_eq]; exact he
    clear hstep he
    go_wp2_with fail
    try rw [mQ]
    clear mQ
    refine dP.out.mono ?_
    rintro e w2 ⟨rfl,hg2,hl2⟩
    go_wp2_with fail
    go_roundw
    case rel => exact ⟨j + 1,R.2,by omega,by go_num,hp2.1,by omega,hl2,hga.trans hg2,hTa.grown hg2,HST⟩
    case measure => simp [intOf]; omega
   ·rw [if_neg he] at hstep
    have HST:=zH hstep
    have hE : (R.1 != 0) = true:=by rw [bne_iff_ne]; exact he
    clear hstep he
    go_wp2_with fail
    try rw [mQ]
    clear mQ
    refine dP.out.mono ?_
    rintro e w2 ⟨rfl,hg2,hl2⟩
    go_wp2_with fail
    go_ret
    rw [HST.out]
    exact ⟨rfl,hga.trans hg2,hl2⟩
  ·have hend:=hs.out
   rw [List.drop_of_length_le (by have:=Gj.out; omega)] at hend
   have HE:=zH hend
   clear hend hs
   go_wp2_with fail
   go_ret
   rw [HE.out]
   exact ⟨rfl,hg,hl1⟩
theorem echeck_d (m : Nat) (ih : Tf m) (k : Int) (n : Str) (s vn : Int) (x : Str) (ks : List Ex) (v : Value) (p : Nat) (left : Int) (w : World) (hm : gZ (.mk k n s vn x ks) ≤ m + 1) (hv : uy (· ≠ p) w v (.mk k n s vn x ks)) (hf : bI 1048576 (.mk k n s vn x ks)) (hleft : 0 ≤ left) (hle : left ≤ 60) (hl : Left w p left) (hT : pJ p w) (h1 : 1 ≤ left) (hone : bM (.mk k n s vn x ks) = 9) (hk : k = 3) (hb : bare (.mk k n s vn x ks) = true) (hS : lone n = false) (hlv : 0 < level n) (hlen : ks.length = 2) :
  bi (.mk k n s vn x ks) v p left w:=by
 unfold bi
 have e : nG (.mk k n s vn x ks) left = qm ks (left - 1):=by
  unfold nG
  rw [if_neg (by omega),if_pos hone]
 rw [e]
 clear e hone
 have HV:=zH hv
 obtain ⟨A,L,cap,rfl,hk⟩:=hv.one'
 simp only [Ex.kind,Ex.name,Ex.vs,Ex.vn,Ex.vt,Ex.kids] at hk ⊢
 have xC : L = ks.length:=by obtain ⟨A',c',e,-,-⟩:=hk; injection e
 have hfp:=hf.parts
 simp only [Ex.kind,Ex.name,Ex.vs,Ex.vn,Ex.vt,Ex.kids] at hfp
 obtain ⟨-,hn,-,-,hx,hkl,-⟩:=hfp
 have HK:=zH hk
 have HF:=zH hf
 have hp:=hl.lt
 have xe:=zH hl
 obtain ⟨c0,cf⟩:=hl
 clear hk hf hv
 subst hk
 have hbr : ∀ w : World,(binOp .eql 26 (.agg #[.int .i64 s,.int .i64 vn,.string ⟨x.toArray⟩]) (.agg #[.int .i64 0,.int .i64 0,.string ⟨#[]⟩])).run Tryz.prog w = .ok (.bool true) w:=fun w => (oz w s vn x).trans (congrArg (fun y => Result.ok (Value.bool y) w) hb)
 clear hb
 have Gj:=zH xC
 have hLb : L ≤ 1048576:=by omega
 have hL2 : ((L : Int) == 2) = true:=by rw [beq_iff_eq]; omega
 clear xC hlen
 obtain ⟨V,hV⟩ : ∃ y,level n = y:=⟨_,rfl⟩
 rw [hV] at hlv
 have ES:=zH hV
 clear hV
 have HS:=zH hS
 clear hS
 go_enter Tryz.func88,Tryz.ntmps88
 go_wp2_with fail
 refine (vJ n _).mono ?_
 rw [HS.out]
 rintro e w1 ⟨rfl,rfl⟩
 go_wp2_with fail
 refine (wE n _).mono ?_
 rw [ES.out]
 rintro e w1 ⟨rfl,rfl⟩
 go_wp2_with fail

 obtain ⟨W,hW⟩ : ∃ W,((w.setCell ⟨p,0,none⟩ (.int .i64 (left - 1))).alloc (.cells #[.int .i64 3,.string ⟨n.toArray⟩,.int .i64 s,.int .i64 vn,.string ⟨x.toArray⟩,.slice A L cap] 52)) = W:=⟨_,rfl⟩
 have hg : w.grownBy W (some p):=by subst hW; exact (gW w p _).trans (World.grownBy_alloc _ _ _)
 have hl1 : Left W p (left - 1):=by subst hW; exact (xe.out.set _).keep ((Below.refl _ _).alloc (Nat.le_refl _) _)
 have hT1:=hT.grown hg
 try rw [hW]
 clear hW
 go_loopw [91] (fun i wr => ∃ (j : Nat) (lk : Int),j ≤ L ∧ i = .int .i64 j ∧ 0 ≤ lk ∧ lk ≤ left - 1 ∧ Left wr p lk ∧ w.grownBy wr (some p) ∧ pJ p wr ∧ Hid (qm ks (left - 1) = qm (ks.drop j) lk)) (fun i _ => L - (intOf i).toNat)
 case atStart => exact ⟨0,left - 1,by omega,rfl,by omega,by omega,hl1,hg,hT1,rfl⟩
 case round =>
  clear hg hl1 hT1
  obtain ⟨j,lk,hj,rfl,hlk0,FN,hl1,hg,hT1,hs⟩:=hrel
  by_cases hlt : j < L
  ·obtain ⟨c,hc'⟩ : ∃ y,ks[j]? = some y:=⟨_,List.getElem?_eq_getElem (by have:=Gj.out; omega)⟩
   have vY:=zH hc'
   obtain ⟨-,-,b,off,A1,n1,p1,rfl,hbp,y0,y1,y2,y3,y4,y5,hk'⟩:=pF (HK.out.keep (D':=(· ≠ p)) (jy hg) (fun b h _ => h)) hc'
   have rP:=zH hk'
   clear hk' hc'
   have hcp : gZ c ≤ m:=by have h1:=DY (az vY.out); have h2 : 1 + oO ks ≤ m + 1:=hm; omega
   have hcf : bI 1048576 c:=HF.out.parts.2.2.2.2.2.2 c (az vY.out)
   obtain ⟨wa,mQ⟩ : ∃ y,wr.alloc (.cells #[.int .i64 c.kind,.string ⟨c.name.toArray⟩,.int .i64 c.vs,.int .i64 c.vn,.string ⟨c.vt.toArray⟩,.slice A1 n1 p1] 52) = y:=⟨_,rfl⟩
   have hba : Below wr.heap.size wr wa:=by subst mQ; exact (Below.refl _ _).alloc (Nat.le_refl _) _
   have hla:=hl1.keep hba
   have hga:=hg.trans (grown_below hba _)
   have hTa:=hT1.grown (grown_below hba _)
   have hkb : jf wa wr.heap.size c (.slice A1 n1 p1):=by subst mQ; exact pG wr c _ _
   obtain ⟨k0,k1,k2,k3,k4,k5,k6,k7⟩:=id hkb
   obtain ⟨R,hR⟩ : ∃ x,nG c lk = x:=⟨_,rfl⟩
   have HR:=zH hR
   have hstep:=hs.out
   rw [Cm vY.out,hR] at hstep
   have hcall:=ih c (.agg #[.int .i64 c.kind,.string ⟨c.name.toArray⟩,.int .i64 c.vs,.int .i64 c.vn,.string ⟨c.vt.toArray⟩,.slice A1 n1 p1]) p lk wa hcp ((rD rP.out).keep (Same.below hba) (fun b h _ => h)) hcf hlk0 (by omega) hla hTa
   unfold bi at hcall
   rw [hR] at hcall
   have dP:=zH hcall
   have hle2:=BF c lk
   rw [hR] at hle2
   have EY:=zH hle2
   clear hR hcall hs hle2
   by_cases he : R.1 = 0
   ·have hp2 : 0 ≤ R.2 ∧ R.2 ≤ lk:=⟨EY.out.2 he hlk0,EY.out.1⟩
    rw [if_pos he] at hstep
    have HST:=zH hstep
    have hE : (R.1 != 0) = false:=by rw [bne_eq_false_iff_eq]; exact he
    clear hstep he
    go_wp2_with fail
    try rw [mQ]
    clear mQ
    refine dP.out.mono ?_
    rintro e w2 ⟨rfl,hg2,hl2⟩
    go_wp2_with fail
    go_roundw
    case rel => exact ⟨j + 1,R.2,by omega,by go_num,hp2.1,by omega,hl2,hga.trans hg2,hTa.grown hg2,HST⟩
    case measure => simp [intOf]; omega
   ·rw [if_neg he] at hstep
    have HST:=zH hstep
    have hE : (R.1 != 0) = true:=by rw [bne_iff_ne]; exact he
    clear hstep he
    go_wp2_with fail
    try rw [mQ]
    clear mQ
    refine dP.out.mono ?_
    rintro e w2 ⟨rfl,hg2,hl2⟩
    go_wp2_with fail
    go_ret
    rw [HST.out]
    exact ⟨rfl,hga.trans hg2,hl2⟩
  ·have hend:=hs.out
   rw [List.drop_of_length_le (by have:=Gj.out; omega)] at hend
   have HE:=zH hend
   clear hend hs
   go_wp2_with fail
   go_ret
   rw [HE.out]
   exact ⟨rfl,hg,hl1⟩

theorem echeck_any : ∀ (m : Nat),Tf m:=by
 intro m
 induction m with
 | zero => intro t v p left w h; cases t; simp only [gZ] at h; omega
 | succ m ih =>
 intro t v p left w hm hv hf hl0 hle hl hT
 obtain ⟨k,n,s,vn,x,ks⟩:=t
 by_cases hz : left = 0
 ·exact echeck_z k n s vn x ks v p left w hv hf hl0 hle hl hT hz
 have hpos : 1 ≤ left:=by omega
 by_cases k1 : k = 1
 ·by_cases hn : n = []
  ·by_cases hlen : ks.length = 0
   ·exact echeck_a k n s vn x ks v p left w hv hf hl0 hle hl hT hpos (by unfold bM; exact if_pos ⟨k1,hn,hlen⟩) k1 hn hlen
   ·exact echeck_a2 k n s vn x ks v p left w hv hf hl0 hle hl hT hpos (by unfold bM; rw [if_neg (fun h => hlen h.2.2),if_neg (fun h => by have : k = 2:=h.1; omega),if_neg (fun h => by have : k = 3:=h.1; omega)]) k1 hn hlen
  ·exact echeck_a1 k n s vn x ks v p left w hv hf hl0 hle hl hT hpos (by unfold bM; rw [if_neg (fun h => hn h.2.1),if_neg (fun h => by have : k = 2:=h.1; omega),if_neg (fun h => by have : k = 3:=h.1; omega)]) k1 hn
 by_cases k2 : k = 2
 ·cases hb : bare (.mk k n s vn x ks) with
  | false => exact echeck_b3 k n s vn x ks v p left w hv hf hl0 hle hl hT hpos (by unfold bM; rw [if_neg (fun h => k1 h.1),if_neg (fun h => by have:=h.2.1; rw [hb] at this; cases this),if_neg (fun h => by have : k = 3:=h.1; omega)]) k2 hb
  | true =>
   by_cases hlen : ks.length = 0
   ·refine echeck_b1 _ k n s vn x ks v p left w hv hf hl0 hle hl hT hpos ?_ k2 hb hlen rfl
    unfold bM
    rw [if_neg (fun h => k1 h.1)]
    by_cases hN : ah n = true
    ·rw [if_pos ⟨k2,hb,hlen,hN⟩,if_pos hN]
    ·rw [if_neg (fun h => hN h.2.2.2),if_neg (fun h => by have : k = 3:=h.1; omega),if_neg hN]
   ·exact echeck_b2 k n s vn x ks v p left w hv hf hl0 hle hl hT hpos (by unfold bM; rw [if_neg (fun h => k1 h.1),if_neg (fun h => hlen h.2.2.1),if_neg (fun h => by have : k = 3:=h.1; omega)]) k2 hb hlen
 by_cases k3 : k = 3
 ·have e0 : bM (.mk k n s vn x ks) = if k = 3 ∧ bare (.mk k n s vn x ks) = true ∧ ((lone n = true ∧ ks.length = 1) ∨ (0 < level n ∧ ks.length = 2)) then 9 else 1:=by
   unfold bM
   rw [if_neg (fun h => k1 h.1),if_neg (fun h => k2 h.1)]
   rfl
  cases hb : bare (.mk k n s vn x ks) with
  | false => exact echeck_c1 k n s vn x ks v p left w hv hf hl0 hle hl hT hpos (by rw [e0,if_neg (fun h => by have:=h.2.1; rw [hb] at this; cases this)]) k3 hb
  | true =>
   have hlv0:=(wF n).1
   cases hS : lone n with
   | true =>
    have hlv : level n = 0:=by
     unfold lone at hS
     simp only [Bool.or_eq_true,decide_eq_true_eq] at hS
     rcases hS with rfl | rfl | rfl <;> decide
    by_cases hlen : ks.length = 1
    ·exact echeck_c m ih k n s vn x ks v p left w hm hv hf hl0 hle hl hT hpos (by rw [e0,if_pos ⟨k3,hb,Or.inl ⟨hS,hlen⟩⟩]) k3 hb hS hlen
    ·exact echeck_c2 k n s vn x ks v p left w hv hf hl0 hle hl hT hpos (by rw [e0,if_neg (fun h => by rcases h.2.2 with h | h <;> omega)]) k3 hb hS hlv hlen
   | false =>
    by_cases hlv : level n = 0
    ·exact echeck_c3 k n s vn x ks v p left w hv hf hl0 hle hl hT hpos (by rw [e0,if_neg (fun h => (h.2.2).elim (fun h => absurd (hS.symm.trans h.1) (by decide)) (fun h => by omega))]) k3 hb hS hlv
    ·have OH : 0 < level n:=by omega
     by_cases hlen : ks.length = 2
     ·exact echeck_d m ih k n s vn x ks v p left w hm hv hf hl0 hle hl hT hpos (by rw [e0,if_pos ⟨k3,hb,Or.inr ⟨OH,hlen⟩⟩]) k3 hb hS OH hlen
     ·exact echeck_c4 k n s vn x ks v p left w hv hf hl0 hle hl hT hpos (by rw [e0,if_neg (fun h => (h.2.2).elim (fun h => absurd (hS.symm.trans h.1) (by decide)) (fun h => by omega))]) k3 hb hS OH hlen
 ·exact echeck_o k n s vn x ks v p left w hv hf hl0 hle hl hT hpos (by unfold bM; rw [if_neg (fun h => k1 h.1),if_neg (fun h => k2 h.1),if_neg (fun h => k3 h.1)]) k1 k2 k3

theorem yT (t : Ex) (v : Value) (w : World) {D : aj} (hv : uy D w v t) (hf : bI 1048576 t) (hT : Tabs w) :
  Calls Tryz.prog 55 #[v] w fun e w' => e = .returned (.int .i64 (lF t)) ∧ Below w.heap.size w w':=by
 have HZ:=zH hv
 obtain ⟨ANS,hA⟩ : ∃ x,lF t = x:=⟨_,rfl⟩
 have HA:=zH hA; rw [hA]; clear hA
 obtain ⟨A,L,cap,rfl,hk⟩:=hv.one'
 clear hk hv
 go_enter Tryz.func55,Tryz.ntmps55
 go_wp2_with fail
 have hbW : Below w.heap.size w ((w.alloc (.cells #[.int .i64 t.kind,.string ⟨t.name.toArray⟩,.int .i64 t.vs,.int .i64 t.vn,.string ⟨t.vt.toArray⟩,.slice A L cap] 52)).alloc (.cells #[.int .i64 60] 3)):=by go_grown
 have hcall:=echeck_any (gZ t) t (.agg #[.int .i64 t.kind,.string ⟨t.name.toArray⟩,.int .i64 t.vs,.int .i64 t.vn,.string ⟨t.vt.toArray⟩,.slice A L cap]) (w.heap.size + 1) 60 ((w.alloc (.cells #[.int .i64 t.kind,.string ⟨t.name.toArray⟩,.int .i64 t.vs,.int .i64 t.vn,.string ⟨t.vt.toArray⟩,.slice A L cap] 52)).alloc (.cells #[.int .i64 60] 3)) (Nat.le_refl _)
  (HZ.out.here.keep (Same.below hbW) (fun b h _ => by have h' : b < w.heap.size:=h; omega)) hf (by omega) (by omega) ⟨by simp [go_sem],by simp [go_sem]⟩ ⟨hT.below hbW,by have:=hT.lt.1; omega,by have:=hT.lt.2; omega⟩
 unfold bi at hcall
 refine hcall.mono ?_
 clear hcall
 rintro e w1 ⟨rfl,hg,-⟩
 have hb1:=hbW.grown hg (by simp; omega) (fun k hk => by injection hk; omega)
 go_wp2_with fail
 go_ret
 exact ⟨by rw [← HA.out]; rfl,hb1⟩
end Go.Proofs.YtpidjanngbaiiaaGreatDoor
