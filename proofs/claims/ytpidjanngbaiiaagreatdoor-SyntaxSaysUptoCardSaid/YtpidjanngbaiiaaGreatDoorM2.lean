/-
  Base Row Blk ExT Ty TyN
-/
import Derived.Test.YtpidjanngbaiiaaGreatDoorShelf
import Derived.WalkKit
import Derived.WalkSpells
import Derived.WalkLawsBesides
import Derived.Handy
import Derived.BigQuiet
import Derived.Outline
import Derived.Lib.ValidU
import Derived.Lib.Hide
import Derived.Deep.Draws
import Derived.Maps.AppendAt
import Derived.Deep.AppendLies
import Derived.Lib.SlicesS
import Derived.Laws.AppendOwnNone
import Derived.Below
import Derived.Deep.RegionHeld
import Derived.Shelf.Strings.SlTrimAscii
namespace Go.Proofs.YtpidjanngbaiiaaGreatDoor
open Go.RowKit Go.Proofs
set_option maxRecDepth 100000
set_option maxHeartbeats 32000000
theorem zG {α : Type _} {l m : List α} : (l ++ m).length = l.length + m.length:=List.length_append
theorem zJ {α : Type _} {a : α} {l : List α} : (a :: l).length = l.length + 1:=List.length_cons
theorem zK {α : Type _} : ([] : List α).length = 0:=List.length_nil
theorem zH {p : Prop} (h : p) : Hid p:=h
theorem zA {α : Type _} {xs : List α} {i : Nat} (h : i < xs.toArray.size) : xs.toArray[i] = xs[i]'(by simpa using h):=List.getElem_toArray h
theorem zB {α : Type _} {a : α} {l : List α} {i : Nat} (h : i + 1 < (a :: l).length) : (a :: l)[i + 1] = l[i]'(Nat.lt_of_succ_lt_succ h):=List.getElem_cons_succ ..
theorem zC {α : Type _} {a : α} {l : List α} (h : 0 < (a :: l).length) : (a :: l)[0] = a:=List.getElem_cons_zero ..
theorem zD {α : Type _} (l : List α) (i : Nat) (a : α) : l.toArray.setIfInBounds i a = (l.set i a).toArray:=List.setIfInBounds_toArray ..
theorem zE {α : Type _} {x : α} {xs : List α} {a : α} : (x :: xs).set 0 a = a :: xs:=rfl
theorem zF {α : Type _} {x : α} {xs : List α} {i : Nat} {a : α} : (x :: xs).set (i + 1) a = x :: xs.set i a:=rfl
theorem zI {α : Sort _} {c : Prop} {a b : α} [Decidable c] (h : ¬ c:=by first | omega | (simp; omega) | (simp only [List.length_append,List.length_cons,List.length_nil]; omega)) : (if c then a else b) = b:=if_neg h

def Tabs (w : World) : Prop:=Lib.Utf8Tabs 3 4 w
theorem Tabs.below {w w' : World} (h : Tabs w) (hb : Below w.heap.size w w') : Tabs w':=Utf8Tabs_below h hb
theorem Tabs.drew {w : World} (h : Tabs w) : Tabs w.drew:=h
theorem Tabs.drewN {w : World} (h : Tabs w) (n : Nat) : Tabs (w.drewN n):=h

theorem step {w w1 w2 : World} (h1 : Below w.heap.size w w1) {B : Nat} (h2 : Below B w1 w2) (hB : w.heap.size ≤ B) : Below w.heap.size w w2:=h1.trans (h2.mono hB)
theorem chain {w w0 w1 : World} (h : Below w.heap.size w w0) (h1 : Below w0.heap.size w0 w1) : Below w.heap.size w w1:=h.trans (h1.mono h.size)
theorem EQ {k : IntKind} {a b : Int} (h : a = b) : Ending.returned (.int k a) = .returned (.int k b):=by rw [h]
theorem ret_bool {a b : Bool} (h : a = b) : Ending.returned (.bool a) = .returned (.bool b):=by rw [h]
theorem F5 (s : ByteArray) : s = ⟨s.data.toList.toArray⟩:=(Lib.mk_data s).symm
theorem Ia (t : List UInt8) (a b : Nat) : (⟨t.toArray⟩ : ByteArray).extract a b = ⟨((t.drop a).take (b - a)).toArray⟩:=Lib.extract_eq ⟨t.toArray⟩ a b
theorem ext_from (t : List UInt8) (a : Nat) : (⟨t.toArray⟩ : ByteArray).extract a t.length = ⟨(t.drop a).toArray⟩:=by
 rw [Ia,List.take_of_length_le (by rw [List.length_drop]; omega)]
theorem ext_to (t : List UInt8) (b : Nat) : (⟨t.toArray⟩ : ByteArray).extract 0 b = ⟨(t.take b).toArray⟩:=by
 rw [Ia]; simp
attribute [go_sem] ext_from ext_to
theorem AV {B : Nat} {W w1 : World} (hb : Below B W w1) : (∀ b o,b < B → w1.cell? ⟨b,o,none⟩ = W.cell? ⟨b,o,none⟩) ∧ (∀ b o,b < B → w1.frozen? ⟨b,o,none⟩ = W.frozen? ⟨b,o,none⟩) ∧ W.heap.size ≤ w1.heap.size :=
 ⟨fun b o h => hb.cell (p:=⟨b,o,none⟩) h,fun b o h => hb.frozen (p:=⟨b,o,none⟩) h,hb.size⟩
theorem qI {w w' : World} {base : Nat} {e : TypeId} {size n : Nat} {v : Value} {xs : List Value} (h : w.ownsRow base e size v n xs) {B : Nat} (hb : Below B w w') (hB : w.heap.size ≤ B) : w'.ownsRow base e size v n xs :=
 h.kept (row:=Option.none) ⟨hb.os,hb.tape,hb.output,hb.size,fun q hq _ => hb.block q (by omega)⟩ (by cases v.ownBlock <;> simp)
end Go.Proofs.YtpidjanngbaiiaaGreatDoor
namespace Go.Proofs.YtpidjanngbaiiaaGreatDoor
open Go.RowKit Go.Proofs
set_option maxRecDepth 100000
set_option maxHeartbeats 32000000

structure oD (P : Program) (T E : TypeId) (size bytes : Nat) : Prop where
 ht : P.underlying T = some (.slice E)
 ex : ∃ (i : TypeInfo) (z : Value),P.info? E = some i ∧ i.zero = some z ∧ i.size = size ∧ i.bytes = bytes ∧ z.cells.size = size
 pos : 0 < size

theorem oD.mk' {P : Program} {T E : TypeId} {size bytes : Nat} {z : Value} (ht : P.underlying T = some (.slice E)) (h : (P.info? E).map (fun i => (i.zero,i.size,i.bytes)) = some (some z,size,bytes)) (hz : z.cells.size = size) (hp : 0 < size) : oD P T E size bytes:=by
 obtain ⟨i,h1,h2,h3,h4⟩:=info_parts h
 exact ⟨ht,⟨i,z,h1,h2,h3,h4,hz⟩,hp⟩

section
variable {P : Program} {ops : Array Oper} {rest : List Oper} {o : Oper} {a : Act} {Q : Exit → Act → World → Prop} {w : World}

theorem pR {T E : TypeId} {size bytes : Nat} (R : oD P T E size bytes) (hgd : o.guard = none) (s x : Operand)
  (ho : o.op = .call { callee:=.builtin .append,args:=#[s,x],argTypes:=#[T,T] })
  (base : Nat) (v : Value) (n : Nat) (xs : List Value) (hs : a.eval s = v) (hown : w.ownsRow base E size v n xs)
  (ad : Addr) (m c : Nat) (news : List Value) (hx : a.eval x = .slice (some ad) m c) (hl : news.length = m * size) (hnews : ∀ j u,news[j]? = some u → w.cell? (ad.add j) = some u) (h1 : ∀ u ∈ news,u.oneCell' = true)
  (h63 : n + m ≤ maxLen) (hbytes : (n + m) * bytes ≤ 140737488355328) (hbase : base ≤ w.heap.size)
  (h : ∀ v' w',w'.ownsRow base E size v' (n + m) (xs ++ news) → w.grownBy w' v.ownBlock → (v'.ownBlock = v.ownBlock ∨ v'.ownBlock = some w.heap.size) → Below base w w' → wpList P ops Q rest (a.put o.dst v') w') : wpList P ops Q (o :: rest) a w:=by
 obtain ⟨i,z,hi,hz,hsize,hby,hzs⟩:=R.ex
 refine wpList_append_own_at w hgd s x T ho base E i z size bytes R.ht hi hz hsize hby hzs R.pos v n xs hs hown ad m c news hx hl hnews h1 h63 hbytes hbase ?_
 intro v' w' h2 h3 _ h5
 refine h v' w' h2 h3 h5 ?_
 exact (Below.refl _ _).grown h3 hbase (fun k hk => (hown.lt k hk).1)

theorem pK {T E : TypeId} {bytes : Nat} (R : oD P T E 1 bytes) (w : World) (u : Value) (hgd : o.guard = none) (s x : Operand)
  (ho : o.op = .call { callee:=.builtin .append,args:=#[s,x],argTypes:=#[T,T] })
  (base : Nat) (v : Value) (n : Nat) (xs : List Value) (hs : a.eval s = v) (hown : w.ownsRow base E 1 v n xs)
  (hx : a.eval x = .slice (some ⟨w.heap.size,0,none⟩) 1 1) (h1 : u.oneCell' = true)
  (hbytes : (n + 1) * bytes ≤ 140737488355328) (h63 : n + 1 ≤ 4611686018427387904) (hbase : base ≤ w.heap.size)
  (h : ∀ v' w',w'.ownsRow base E 1 v' (n + 1) (xs ++ [u]) → (w.alloc (.cells #[u] E)).grownBy w' v.ownBlock → (v'.ownBlock = v.ownBlock ∨ v'.ownBlock = some (w.heap.size + 1)) → Below base w w' → wpList P ops Q rest (a.put o.dst v') w') : wpList P ops Q (o :: rest) a (w.alloc (.cells #[u] E)):=by
 refine pR R hgd s x ho base v n xs hs (hown.alloc _) ⟨w.heap.size,0,none⟩ 1 1 [u] hx rfl (cell_one_new _ _ _) (by simpa using h1) (by unfold maxLen; omega) hbytes (by simp; omega) ?_
 intro v' w' h2 h3 h4 h5
 exact h v' w' h2 h3 (by simpa using h4) (((Below.refl _ _).alloc hbase _).trans h5)
end

theorem rt_runes : oD Tryz.prog 119 21 1 4:=.mk' (z:=.int .i32 0) Tryz.underlying119 (by kernel_rfl) rfl (by decide)
theorem nO : oD Tryz.prog 27 9 1 16:=.mk' (z:=.string ⟨#[]⟩) Tryz.underlying27 (by kernel_rfl) rfl (by decide)
end Go.Proofs.YtpidjanngbaiiaaGreatDoor
namespace Go.Proofs.YtpidjanngbaiiaaGreatDoor
open Go.RowKit Go.Proofs
set_option maxRecDepth 100000
set_option maxHeartbeats 32000000

abbrev Str:=List UInt8
def vF (w : World) (b off : Nat) (l : List Str) : Prop:=∀ i s,l[i]? = some s → w.cell? ⟨b,off + i,none⟩ = some (.string ⟨s.toArray⟩)
def aF (w : World) (v : Value) (l : List Str) : Prop:=∃ A cap,v = .slice A l.length cap ∧ l.length ≤ cap ∧ (0 < l.length → ∃ b off,A = some ⟨b,off,none⟩ ∧ vF w b off l)
theorem cell_lt {w : World} {b o : Nat} {v : Value} (h : w.cell? ⟨b,o,none⟩ = some v) : b < w.heap.size:=by
 unfold World.cell? at h
 rcases Nat.lt_or_ge b w.heap.size with hl | hl
 ·exact hl
 ·rw [Array.getElem?_eq_none hl] at h; cases h
theorem ae {w w' : World} {b o : Nat} {v : Value} (h : w.cell? ⟨b,o,none⟩ = some v) (hb : Below w.heap.size w w') : w'.cell? ⟨b,o,none⟩ = some v :=
 (hb.cell (p:=⟨b,o,none⟩) (cell_lt h)).trans h
theorem vF.keep {w w' : World} {b off : Nat} {l : List Str} (h : vF w b off l) (hb : Below w.heap.size w w') : vF w' b off l:=fun i s hi => ae (h i s hi) hb
theorem aF.keep {w w' : World} {v : Value} {l : List Str} (h : aF w v l) (hb : Below w.heap.size w w') : aF w' v l:=by
 obtain ⟨A,cap,h1,h2,h3⟩:=h
 exact ⟨A,cap,h1,h2,fun h0 => let ⟨b,off,e,hr⟩:=h3 h0; ⟨b,off,e,hr.keep hb⟩⟩
section
variable {P : Program} {ops : Array Oper} {rest : List Oper} {o : Oper} {a : Act} {Q : Exit → Act → World → Prop} {w : World}
theorem oC {T E : TypeId} {size bytes : Nat} (R : oD P T E size bytes) (hgd : o.guard = none) (s x : Operand)
  (ho : o.op = .call { callee:=.builtin .append,args:=#[s,x],argTypes:=#[T,T] })
  (base : Nat) (v : Value) (n : Nat) (xs : List Value) (hs : a.eval s = v) (hown : w.ownsRow base E size v n xs)
  (A : Option Addr) (m c : Nat) (hx : a.eval x = .slice A m c) (ys : List Value) (hl : ys.length = m * size) (hA : A = none → m = 0 ∧ c = 0) (hsrc : ∀ ad,A = some ad → ∀ j u,ys[j]? = some u → w.cell? (ad.add j) = some u) (h1 : ∀ u ∈ ys,u.oneCell' = true)
  (h63 : n + m ≤ maxLen) (hbytes : (n + m) * bytes ≤ 140737488355328) (hbase : base ≤ w.heap.size)
  (h : ∀ v' w',w'.ownsRow base E size v' (n + m) (xs ++ ys) → Below base w w' → wpList P ops Q rest (a.put o.dst v') w') : wpList P ops Q (o :: rest) a w:=by
 cases A with
 | none =>
  obtain ⟨rfl,rfl⟩:=hA rfl
  obtain ⟨i,z,hi,hz,hsize,hby,hzs⟩:=R.ex
  refine wpList_append_own_none hgd s x T ho base E i size R.ht hi v n xs hs hown hx ?_
  have : ys = []:=List.eq_nil_of_length_eq_zero (by omega)
  subst this
  exact h v w (by simpa using hown) (Below.refl _ _)
 | some ad =>
  exact pR R hgd s x ho base v n xs hs hown ad m c ys hx hl (hsrc ad rfl) h1 h63 hbytes hbase fun v' w' k1 _ _ k4 => h v' w' k1 k4
end
theorem aF.one {w : World} {v : Value} {l : List Str} (h : aF w v l) : v.oneCell' = true:=by obtain ⟨A,cap,rfl,_⟩:=h; rfl
theorem bg {w : World} {base : Nat} {E : TypeId} {size n : Nat} {v : Value} {xs : List Value} (h : w.ownsRow base E size v n xs) : ∃ A cap,v = .slice A n cap:=by
 rcases h.2 with ⟨rfl,h0⟩ | ⟨g,cap,cur,rfl,_⟩
 ·rw [h0]; exact ⟨_,_,rfl⟩
 ·exact ⟨_,_,rfl⟩
theorem az {α : Type} {l : List α} {i : Nat} {a : α} (h : l[i]? = some a) : a ∈ l:=List.mem_of_getElem? h
abbrev aj:=Nat → Prop
def bD (D : aj) (w : World) (v : Value) (l : List Str) : Prop:=∃ A cap,v = .slice A l.length cap ∧ l.length ≤ cap ∧ (0 < l.length → ∃ b off,A = some ⟨b,off,none⟩ ∧ D b ∧ vF w b off l)
def Same (D : aj) (w w' : World) : Prop:=∀ b,D b → b < w.heap.size → w'.heap[b]? = w.heap[b]?
theorem Same.cell {D : aj} {w w' : World} (h : Same D w w') {b o : Nat} (hD : D b) {v : Value} (hc : w.cell? ⟨b,o,none⟩ = some v) : w'.cell? ⟨b,o,none⟩ = some v:=by
 have hl:=cell_lt hc
 unfold World.cell? at hc ⊢
 rw [h b hD hl]
 exact hc
theorem Same.below {D : aj} {w w' : World} (hb : Below w.heap.size w w') : Same D w w':=fun b _ hl => hb.block b hl
theorem Same.grown {D : aj} {w w' : World} {row : Option Nat} (hg : w.grownBy w' row) (h : ∀ b,D b → some b ≠ row) : Same D w w':=fun b hD hl => hg.block b hl (h b hD)
theorem Same.set {D : aj} {w : World} {p : Addr} {u : Value} (h : ¬ D p.block) : Same D w (w.setCell p u):=by
 intro b hD hl
 have hne : p.block ≠ b:=fun e => h (e ▸ hD)
 unfold World.setCell
 simp only
 rw [Array.getElem?_modify,if_neg hne]
theorem Same.trans {D : aj} {a b c : World} (h1 : Same D a b) (hs : a.heap.size ≤ b.heap.size) (h2 : Same D b c) : Same D a c:=fun k hD hl => (h2 k hD (by omega)).trans (h1 k hD hl)
theorem bD.keep {D D' : aj} {w w' : World} {v : Value} {l : List Str} (h : bD D w v l) (hs : Same D w w') (hD : ∀ b,D b → b < w.heap.size → D' b) : bD D' w' v l:=by
 obtain ⟨A,cap,h1,h2,h3⟩:=h
 refine ⟨A,cap,h1,h2,fun h0 => ?_⟩
 obtain ⟨b,off,e,hd,hr⟩:=h3 h0
 have hl : b < w.heap.size:=by
  obtain ⟨s,hs⟩ : ∃ s,l[0]? = some s:=⟨_,List.getElem?_eq_getElem h0⟩
  exact cell_lt (hr 0 s hs)
 exact ⟨b,off,e,hD b hd hl,fun i s hi => hs.cell hd (hr i s hi)⟩
theorem bD.is {D : aj} {w : World} {v : Value} {l : List Str} (h : bD D w v l) : aF w v l:=by
 obtain ⟨A,cap,h1,h2,h3⟩:=h
 exact ⟨A,cap,h1,h2,fun h0 => let ⟨b,off,e,_,hr⟩:=h3 h0; ⟨b,off,e,hr⟩⟩
theorem aF.toD {w : World} {v : Value} {l : List Str} (h : aF w v l) : bD (· < w.heap.size) w v l:=by
 obtain ⟨A,cap,h1,h2,h3⟩:=h
 refine ⟨A,cap,h1,h2,fun h0 => ?_⟩
 obtain ⟨b,off,e,hr⟩:=h3 h0
 obtain ⟨s,hs⟩ : ∃ s,l[0]? = some s:=⟨_,List.getElem?_eq_getElem h0⟩
 exact ⟨b,off,e,cell_lt (hr 0 s hs),hr⟩
structure Names (w : World) (v : Value) (l : List Str) : Prop where
 s : aF w v l
 z : ∀ n c,v = .slice none n c → c = 0
theorem Names.keep {w w' : World} {v : Value} {l : List Str} (h : Names w v l) (hb : Below w.heap.size w w') : Names w' v l:=⟨h.s.keep hb,h.z⟩
theorem Names.one {w : World} {v : Value} {l : List Str} (h : Names w v l) : v.oneCell' = true:=h.s.one
theorem Names.none (w : World) : Names w (.slice none 0 0) []:=⟨⟨Option.none,0,rfl,Nat.le_refl _,fun h => by simp at h⟩,fun n c e => by injection e with _ _ e; exact e.symm⟩
abbrev All : aj:=fun _ => True
theorem Same.refl (D : aj) (w : World) : Same D w w:=fun _ _ _ => rfl
theorem bD.below {D : aj} {w w' : World} {v : Value} {t : List Str} (h : bD D w v t) (hb : Below w.heap.size w w') : bD D w' v t:=h.keep (Same.below hb) fun _ h _ => h
theorem bD.one {D : aj} {w : World} {v : Value} {l : List Str} (h : bD D w v l) : v.oneCell' = true:=h.is.one
theorem fK {b : Nat} {i j : Nat} {w : World} {u : Value} (h : i ≠ j) : (w.setCell ⟨b,i,none⟩ u).cell? ⟨b,j,none⟩ = w.cell? ⟨b,j,none⟩:=World.cell?_setCell_other _ _ _ _ (fun e => h (by injection e))
theorem uA {b : Nat} {i : Nat} {w : World} {u x : Value} (h : w.cell? ⟨b,i,none⟩ = some x) : (w.setCell ⟨b,i,none⟩ u).cell? ⟨b,i,none⟩ = some u:=World.cell?_setCell_same' _ _ _ (by rw [h]; rfl)
theorem bD.any {w : World} {v : Value} {l : List Str} (h : aF w v l) : bD All w v l:=h.toD.keep (Same.refl _ _) fun _ _ _ => trivial
theorem byte_at' {l : Str} {k : Nat} {b : UInt8} (h : l[k]? = some b) (hk : k < (⟨l.toArray⟩ : ByteArray).size) : (⟨l.toArray⟩ : ByteArray)[k]'hk = b:=by
 have : (⟨l.toArray⟩ : ByteArray)[k]'hk = l[k]'(by simpa [ByteArray.size] using hk):=rfl
 rw [this]
 exact (List.getElem?_eq_some_iff.1 h).2
theorem ax {a b : Bool} (h : a = b) : Ending.returned (.bool a) = .returned (.bool b):=by rw [h]
theorem mk_inj {a b : Str} : ((⟨a.toArray⟩ : ByteArray) = ⟨b.toArray⟩) ↔ a = b:=by
 constructor
 ·intro h
  have:=congrArg (fun x : ByteArray => x.data.toList) h
  simpa using this
 ·rintro rfl; rfl
theorem gW (w : World) (p : Nat) (u : Value) : w.grownBy (w.setCell ⟨p,0,none⟩ u) (some p) :=
 ⟨rfl,rfl,rfl,by rw [World.size_setCell]; exact Nat.le_refl _,fun b _ h => Below.heap_setCell w _ u b (fun e => h (by rw [e]))⟩
theorem grown_below {w w' : World} (h : Below w.heap.size w w') (row : Option Nat) : w.grownBy w' row:=⟨h.os,h.tape,h.output,h.size,fun b hl _ => h.block b hl⟩
theorem jy {w w' : World} {p : Nat} (h : w.grownBy w' (some p)) : Same (· ≠ p) w w':=Same.grown h (fun b hb e => hb (by injection e))
structure Left (w : World) (p : Nat) (left : Int) : Prop where
 c : w.cell? ⟨p,0,none⟩ = some (.int .i64 left)
 f : w.frozen? ⟨p,0,none⟩ = false
theorem Left.lt {w : World} {p : Nat} {left : Int} (h : Left w p left) : p < w.heap.size:=cell_lt h.c
theorem Left.keep {w w' : World} {p : Nat} {left : Int} (h : Left w p left) (hb : Below w.heap.size w w') : Left w' p left :=
 ⟨ae h.c hb,(hb.frozen (p:=⟨p,0,none⟩) h.lt).trans h.f⟩
theorem Left.set {w : World} {p : Nat} {left : Int} (h : Left w p left) (l' : Int) : Left (w.setCell ⟨p,0,none⟩ (.int .i64 l')) p l' :=
 ⟨World.cell?_setCell_same' w _ _ (by rw [h.c]; rfl),by rw [World.frozen?_setCell]; exact h.f⟩
theorem Left.far {w : World} {p : Nat} {left : Int} (h : Left w p left) {a : Addr} (hq : a.block ≠ p) (x : Value) : Left (w.setCell a x) p left :=
 ⟨(World.cell?_setCell_far w a ⟨p,0,none⟩ x hq).trans h.c,by rw [World.frozen?_setCell]; exact h.f⟩
theorem Left.far5 {w : World} {p q : Nat} {left : Int} (h : Left w p left) (hq : q ≠ p) (x0 x1 x2 x3 x4 : Value) :
  Left (((((w.setCell ⟨q,0,none⟩ x0).setCell ⟨q,1,none⟩ x1).setCell ⟨q,2,none⟩ x2).setCell ⟨q,3,none⟩ x3).setCell ⟨q,4,none⟩ x4) p left:=by
 have h0:=h.far (a:=⟨q,0,none⟩) hq x0
 have h1:=h0.far (a:=⟨q,1,none⟩) hq x1
 have h2:=h1.far (a:=⟨q,2,none⟩) hq x2
 have h3:=h2.far (a:=⟨q,3,none⟩) hq x3
 exact h3.far (a:=⟨q,4,none⟩) hq x4
theorem wo {w wr : World} {row : Option Nat} (h : w.grownBy wr row) {a : Addr} (hq : w.heap.size ≤ a.block) (x : Value) : w.grownBy (wr.setCell a x) row:=by
 refine ⟨h.os,h.tape,h.output,by rw [World.size_setCell]; exact h.size,fun b hl hne => ?_⟩
 rw [Below.heap_setCell wr a x b (by omega)]
 exact h.block b hl hne
theorem CQ {w wr : World} {row : Option Nat} {q : Nat} (h : w.grownBy wr row) (hq : w.heap.size ≤ q) (x0 x1 x2 x3 x4 : Value) :
  w.grownBy (((((wr.setCell ⟨q,0,none⟩ x0).setCell ⟨q,1,none⟩ x1).setCell ⟨q,2,none⟩ x2).setCell ⟨q,3,none⟩ x3).setCell ⟨q,4,none⟩ x4) row:=by
 have h0:=wo h (a:=⟨q,0,none⟩) hq x0
 have h1:=wo h0 (a:=⟨q,1,none⟩) hq x1
 have h2:=wo h1 (a:=⟨q,2,none⟩) hq x2
 have h3:=wo h2 (a:=⟨q,3,none⟩) hq x3
 exact wo h3 (a:=⟨q,4,none⟩) hq x4
theorem FV {w : World} {base base' : Nat} {e : TypeId} {size n : Nat} {v : Value} {xs : List Value} (h : w.ownsRow base e size v n xs) (hb : base' ≤ base) : w.ownsRow base' e size v n xs:=by
 refine ⟨h.1,h.2.imp id ?_⟩
 rintro ⟨g,cap,cur,h1,h2,h3⟩
 exact ⟨g,cap,cur,h1,by omega,h3⟩
theorem xN {D : aj} {w : World} {base : Nat} {E : TypeId} {v : Value} {l : List Str} {x : Str} (h : w.ownsRow base E 1 v (l.length + 1) ((l.map fun s => .string ⟨s.toArray⟩) ++ [.string ⟨x.toArray⟩])) (hD : ∀ b,base ≤ b → D b) : bD D w v (l ++ [x]):=by
 have hcells:=fun g => h.cells (g:=g)
 rcases h.2 with ⟨rfl,h0⟩ | ⟨g,cap,cur,rfl,hg,_,hn,_⟩
 ·omega
 ·refine ⟨_,cap,by simp,by simpa using hn,fun _ => ⟨g,0,rfl,hD g hg,fun i s hi => ?_⟩⟩
  have:=hcells g rfl i (.string ⟨s.toArray⟩) (by
   have e : ((l.map fun s => Value.string ⟨s.toArray⟩) ++ [Value.string ⟨x.toArray⟩]) = (l ++ [x]).map fun s => Value.string ⟨s.toArray⟩:=by simp
   rw [e,List.getElem?_map,hi]; rfl)
  rw [Go.WideShapes.add_plain] at this
  exact this
theorem yu {w : World} {A : Option Addr} {n c : Nat} {l : List Str} (h : aF w (.slice A n c) l) : ∀ ad,A = some ad → ∀ j u,(l.map fun s => Value.string ⟨s.toArray⟩)[j]? = some u → w.cell? (ad.add j) = some u:=by
 obtain ⟨A',c',e,_,h3⟩:=h
 injection e with e1 e2 e3
 subst e1
 intro ad e j u hj
 have hjl : j < l.length:=by
  have:=(List.getElem?_eq_some_iff.1 hj).1
  simpa using this
 obtain ⟨b,off,e',hr⟩:=h3 (by omega)
 rw [e] at e'
 obtain rfl:=Option.some.inj e'
 rw [List.getElem?_map,List.getElem?_eq_getElem hjl] at hj
 simp only [Option.map_some,Option.some.injEq] at hj
 subst hj
 rw [Go.WideShapes.add_plain]
 exact hr j _ (List.getElem?_eq_getElem hjl)
theorem yx {w : World} {base : Nat} {E : TypeId} {v : Value} {l : List Str} {x : Str} (h : w.ownsRow base E 1 v (l.length + 1) ((l.map fun s => .string ⟨s.toArray⟩) ++ [.string ⟨x.toArray⟩])) : Names w v (l ++ [x]):=by
 refine ⟨(xN (D:=fun _ => True) h fun _ _ => trivial).is,fun n c e => ?_⟩
 rcases h.2 with ⟨_,h0⟩ | ⟨g,cap,cur,e',_⟩
 ·omega
 ·rw [e'] at e; cases e
theorem yw (l : List Str) : ∀ u ∈ l.map (fun s => Value.string ⟨s.toArray⟩),u.oneCell' = true:=by
 intro u hu
 obtain ⟨s,_,rfl⟩:=List.mem_map.1 hu
 rfl
def IntRow (w : World) (b off : Nat) (l : List Int) : Prop:=∀ i x,l[i]? = some x → w.cell? ⟨b,off + i,none⟩ = some (.int .i64 x)
def rU (D : aj) (w : World) (v : Value) (l : List Int) : Prop:=∃ A cap,v = .slice A l.length cap ∧ l.length ≤ cap ∧ (0 < l.length → ∃ b off,A = some ⟨b,off,none⟩ ∧ D b ∧ IntRow w b off l)
theorem rU.keep {D D' : aj} {w w' : World} {v : Value} {l : List Int} (h : rU D w v l) (hs : Same D w w') (hD : ∀ b,D b → b < w.heap.size → D' b) : rU D' w' v l:=by
 obtain ⟨A,cap,h1,h2,h3⟩:=h
 refine ⟨A,cap,h1,h2,fun h0 => ?_⟩
 obtain ⟨b,off,e,hd,hr⟩:=h3 h0
 have hl : b < w.heap.size:=by
  obtain ⟨s,hs⟩ : ∃ s,l[0]? = some s:=⟨_,List.getElem?_eq_getElem h0⟩
  exact cell_lt (hr 0 s hs)
 exact ⟨b,off,e,hD b hd hl,fun i s hi => hs.cell hd (hr i s hi)⟩
theorem rU.below {D : aj} {w w' : World} {v : Value} {t : List Int} (h : rU D w v t) (hb : Below w.heap.size w w') : rU D w' v t:=h.keep (Same.below hb) fun _ h _ => h
theorem rU.one {D : aj} {w : World} {v : Value} {l : List Int} (h : rU D w v l) : v.oneCell' = true:=by obtain ⟨A,cap,rfl,_⟩:=h; rfl
theorem rU.all {D : aj} {w : World} {v : Value} {l : List Int} (h : rU D w v l) : rU All w v l:=h.keep (Same.refl _ _) fun _ _ _ => trivial
theorem no_ints (D : aj) (w : World) : rU D w (.slice none 0 0) []:=⟨none,0,rfl,Nat.le_refl _,fun h => by simp at h⟩
theorem uX {D : aj} {w : World} {base : Nat} {E : TypeId} {v : Value} {l : List Str} (h : w.ownsRow base E 1 v l.length (l.map fun s => .string ⟨s.toArray⟩)) (hD : ∀ b,base ≤ b → D b) : bD D w v l:=by
 have hcells:=fun g => h.cells (g:=g)
 rcases h.2 with ⟨rfl,h0⟩ | ⟨g,cap,cur,rfl,hg,_,hn,_⟩
 ·exact ⟨none,0,by rw [h0],by omega,fun h1 => by omega⟩
 ·refine ⟨_,cap,rfl,hn,fun _ => ⟨g,0,rfl,hD g hg,fun i x hi => ?_⟩⟩
  have:=hcells g rfl i (.string ⟨x.toArray⟩) (by rw [List.getElem?_map,hi]; rfl)
  rw [Go.WideShapes.add_plain] at this
  exact this
end Go.Proofs.YtpidjanngbaiiaaGreatDoor
namespace Go.Proofs.YtpidjanngbaiiaaGreatDoor
open Go.RowKit Go.Proofs
set_option maxRecDepth 100000
set_option maxHeartbeats 32000000

inductive Ex where
 | mk (kind : Int) (name : Str) (vs : Int) (vn : Int) (vt : Str) (kids : List Ex)
namespace Ex
set_option maxRecDepth 100000
set_option maxHeartbeats 32000000
def kind : Ex → Int | mk x _ _ _ _ _ => x
def name : Ex → Str | mk _ x _ _ _ _ => x
def vs : Ex → Int | mk _ _ x _ _ _ => x
def vn : Ex → Int | mk _ _ _ x _ _ => x
def vt : Ex → Str | mk _ _ _ _ x _ => x
def kids : Ex → List Ex | mk _ _ _ _ _ x => x
theorem aN (kind : Int) (name : Str) (vs : Int) (vn : Int) (vt : Str) (kids : List Ex) : (Ex.mk kind name vs vn vt kids).kind = kind:=rfl
theorem aI (kind : Int) (name : Str) (vs : Int) (vn : Int) (vt : Str) (kids : List Ex) : (Ex.mk kind name vs vn vt kids).name = name:=rfl
theorem yL (kind : Int) (name : Str) (vs : Int) (vn : Int) (vt : Str) (kids : List Ex) : (Ex.mk kind name vs vn vt kids).vs = vs:=rfl
theorem yK (kind : Int) (name : Str) (vs : Int) (vn : Int) (vt : Str) (kids : List Ex) : (Ex.mk kind name vs vn vt kids).vn = vn:=rfl
theorem yM (kind : Int) (name : Str) (vs : Int) (vn : Int) (vt : Str) (kids : List Ex) : (Ex.mk kind name vs vn vt kids).vt = vt:=rfl
theorem aK (kind : Int) (name : Str) (vs : Int) (vn : Int) (vt : Str) (kids : List Ex) : (Ex.mk kind name vs vn vt kids).kids = kids:=rfl
end Ex
def LD : Ex:=.mk 0 [] 0 0 [] []
inductive bI (N : Nat) : Ex → Prop where
 | mk (kind : Int) (name : Str) (vs : Int) (vn : Int) (vt : Str) (kids : List Ex) (h_kind : (Lit.int .i64 kind).wf = true) (h_name : name.length ≤ N) (h_vs : (Lit.int .i64 vs).wf = true) (h_vn : (Lit.int .i64 vn).wf = true) (h_vt : vt.length ≤ N) (h_kids : kids.length ≤ N) (g_kids : ∀ t ∈ kids,bI N t) : bI N (.mk kind name vs vn vt kids)
theorem bI.parts {N : Nat} {t : Ex} (h : bI N t) : (Lit.int .i64 t.kind).wf = true ∧ t.name.length ≤ N ∧ (Lit.int .i64 t.vs).wf = true ∧ (Lit.int .i64 t.vn).wf = true ∧ t.vt.length ≤ N ∧ t.kids.length ≤ N ∧ (∀ k ∈ t.kids,bI N k):=by
 cases h with
 | mk kind name vs vn vt kids h_kind h_name h_vs h_vn h_vt h_kids g_kids => exact ⟨h_kind,h_name,h_vs,h_vn,h_vt,h_kids,g_kids⟩
theorem bI.mono {N M : Nat} (hNM : N ≤ M) : ∀ {t : Ex},bI N t → bI M t:=by
 intro t h
 induction h with
 | mk kind name vs vn vt kids h_kind h_name h_vs h_vn h_vt h_kids g_kids ih => exact .mk kind name vs vn vt kids h_kind (Nat.le_trans h_name hNM) h_vs h_vn (Nat.le_trans h_vt hNM) (Nat.le_trans h_kids hNM) ih
mutual
def EW (D : aj) (w : World) (b off : Nat) : Ex → Prop
 | .mk kind name vs vn vt kids => ∃ ak,w.cell? ⟨b,off,none⟩ = some (.int .i64 kind) ∧ w.cell? ⟨b,off + 1,none⟩ = some (.string ⟨name.toArray⟩) ∧ w.cell? ⟨b,off + 2,none⟩ = some (.int .i64 vs) ∧ w.cell? ⟨b,off + 3,none⟩ = some (.int .i64 vn) ∧ w.cell? ⟨b,off + 4,none⟩ = some (.string ⟨vt.toArray⟩) ∧ w.cell? ⟨b,off + 5,none⟩ = some (ak) ∧ ∃ A cap,ak = .slice A kids.length cap ∧ kids.length ≤ cap ∧ (A = none → cap = 0) ∧ (0 < kids.length → ∃ b' off',A = some ⟨b',off',none⟩ ∧ D b' ∧ uH D w b' off' kids)
def uH (D : aj) (w : World) (b off : Nat) : List Ex → Prop
 | [] => True
 | t :: r => EW D w b off t ∧ uH D w b (off + 6) r
end
def uz (D : aj) (w : World) (v : Value) (ks : List Ex) : Prop:=∃ A cap,v = .slice A ks.length cap ∧ ks.length ≤ cap ∧ (A = none → cap = 0) ∧ (0 < ks.length → ∃ b off,A = some ⟨b,off,none⟩ ∧ D b ∧ uH D w b off ks)
def uy (D : aj) (w : World) (v : Value) (t : Ex) : Prop:=∃ ak,v = .agg #[.int .i64 t.kind,.string ⟨t.name.toArray⟩,.int .i64 t.vs,.int .i64 t.vn,.string ⟨t.vt.toArray⟩,ak] ∧ uz D w ak t.kids
theorem uG (D : aj) (w : World) (b off : Nat) (t : Ex) : EW D w b off t ↔ ∃ ak,w.cell? ⟨b,off,none⟩ = some (.int .i64 t.kind) ∧ w.cell? ⟨b,off + 1,none⟩ = some (.string ⟨t.name.toArray⟩) ∧ w.cell? ⟨b,off + 2,none⟩ = some (.int .i64 t.vs) ∧ w.cell? ⟨b,off + 3,none⟩ = some (.int .i64 t.vn) ∧ w.cell? ⟨b,off + 4,none⟩ = some (.string ⟨t.vt.toArray⟩) ∧ w.cell? ⟨b,off + 5,none⟩ = some (ak) ∧ uz D w ak t.kids:=by
 cases t with
 | mk kind name vs vn vt kids => simp only [EW,uz,Ex.kind,Ex.name,Ex.vs,Ex.vn,Ex.vt,Ex.kids]
theorem ExRow_at {D : aj} {w : World} {b : Nat} : ∀ {ks : List Ex} {off i : Nat} {t : Ex},uH D w b off ks → ks[i]? = some t → EW D w b (off + i * 6) t:=by
 intro ks
 induction ks with
 | nil => intro off i t _ h; simp at h
 | cons x r ih =>
  intro off i t h hi
  simp only [uH] at h
  match i,hi with
  | 0,hi => simp at hi; subst hi; simpa using h.1
  | i + 1,hi =>
   have:=ih h.2 (by simpa using hi)
   rw [show off + (i + 1) * 6 = off + 6 + i * 6 by omega]
   exact this
theorem BM {D : aj} {w : World} {b : Nat} : ∀ {ks : List Ex} {off : Nat},(∀ (i : Nat) t,ks[i]? = some t → EW D w b (off + i * 6) t) → uH D w b off ks
 | [],_,_ => by simp [uH]
 | t :: r,off,h => by
  simp only [uH]
  refine ⟨by simpa using h 0 t rfl,BM fun i u hi => ?_⟩
  have:=h (i + 1) u (by simpa using hi)
  rw [show off + 6 + i * 6 = off + (i + 1) * 6 by omega]
  exact this
mutual
theorem ExAt_keep {D D' : aj} {w w' : World} (hs : Same D w w') (hD : ∀ b,D b → b < w.heap.size → D' b) : ∀ {b off : Nat} (t : Ex),D b → EW D w b off t → EW D' w' b off t
 | b,off,.mk kind name vs vn vt kids => by
  simp only [EW]
  rintro hd ⟨ak,h0,h1,h2,h3,h4,h5,A,cap,h8,h9,hz,h10⟩
  refine ⟨ak,hs.cell hd h0,hs.cell hd h1,hs.cell hd h2,hs.cell hd h3,hs.cell hd h4,hs.cell hd h5,A,cap,h8,h9,hz,fun h0 => ?_⟩
  obtain ⟨b',off',e,hd',hr⟩:=h10 h0
  refine ⟨b',off',e,hD b' hd' ?_,yP hs hD kids hd' hr⟩
  cases kids with
  | nil => simp at h0
  | cons t r =>
   obtain ⟨hr1,-⟩:=hr
   obtain ⟨_,hc,-⟩:=(uG _ _ _ _ _).1 hr1
   exact cell_lt hc
theorem yP {D D' : aj} {w w' : World} (hs : Same D w w') (hD : ∀ b,D b → b < w.heap.size → D' b) : ∀ {b off : Nat} (ks : List Ex),D b → uH D w b off ks → uH D' w' b off ks
 | _,_,[] => by simp [uH]
 | b,off,t :: r => by
  simp only [uH]
  rintro hd ⟨h1,h2⟩
  exact ⟨ExAt_keep hs hD t hd h1,yP hs hD r hd h2⟩
end
theorem uz.keep {D D' : aj} {w w' : World} {v : Value} {ks : List Ex} (h : uz D w v ks) (hs : Same D w w') (hD : ∀ b,D b → b < w.heap.size → D' b) : uz D' w' v ks:=by
 obtain ⟨A,cap,h1,h2,hz,h3⟩:=h
 refine ⟨A,cap,h1,h2,hz,fun h0 => ?_⟩
 obtain ⟨b,off,e,hd,hr⟩:=h3 h0
 refine ⟨b,off,e,hD b hd ?_,yP hs hD ks hd hr⟩
 cases ks with
 | nil => simp at h0
 | cons t r =>
  obtain ⟨hr1,-⟩:=hr
  obtain ⟨_,hc,-⟩:=(uG _ _ _ _ _).1 hr1
  exact cell_lt hc
theorem uy.keep {D D' : aj} {w w' : World} {v : Value} {t : Ex} (h : uy D w v t) (hs : Same D w w') (hD : ∀ b,D b → b < w.heap.size → D' b) : uy D' w' v t:=by
 obtain ⟨ak,h1,ja⟩:=h
 exact ⟨ak,h1,ja.keep hs hD⟩
theorem uy.below {D : aj} {w w' : World} {v : Value} {t : Ex} (h : uy D w v t) (hb : Below w.heap.size w w') : uy D w' v t:=h.keep (Same.below hb) fun _ h _ => h
theorem uz.below {D : aj} {w w' : World} {v : Value} {t : List Ex} (h : uz D w v t) (hb : Below w.heap.size w w') : uz D w' v t:=h.keep (Same.below hb) fun _ h _ => h
theorem uy.all {D : aj} {w : World} {v : Value} {t : Ex} (h : uy D w v t) : uy All w v t:=h.keep (Same.refl _ _) fun _ _ _ => trivial
theorem uz.all {D : aj} {w : World} {v : Value} {t : List Ex} (h : uz D w v t) : uz All w v t:=h.keep (Same.refl _ _) fun _ _ _ => trivial
theorem uy.here {D : aj} {w : World} {v : Value} {t : Ex} (h : uy D w v t) : uy (· < w.heap.size) w v t:=h.keep (Same.refl _ _) fun _ _ h => h
theorem uz.one {D : aj} {w : World} {v : Value} {l : List Ex} (h : uz D w v l) : v.oneCell' = true:=by obtain ⟨A,cap,rfl,_⟩:=h; rfl
theorem uy.one' {D : aj} {w : World} {v : Value} {t : Ex} (h : uy D w v t) : ∃ vw n_kids vG,v = .agg #[.int .i64 t.kind,.string ⟨t.name.toArray⟩,.int .i64 t.vs,.int .i64 t.vn,.string ⟨t.vt.toArray⟩,.slice vw n_kids vG] ∧ uz D w (.slice vw n_kids vG) t.kids:=by
 obtain ⟨ak,rfl,ja⟩:=h
 have zQ:=ja
 obtain ⟨vw,vG,rfl,-,-⟩:=ja
 exact ⟨_,_,_,rfl,zQ⟩
theorem pF {D : aj} {w : World} {A : Option Addr} {n cap : Nat} {ks : List Ex} {i : Nat} {t : Ex} (h : uz D w (.slice A n cap) ks) (hi : ks[i]? = some t) :
  n = ks.length ∧ n ≤ cap ∧ ∃ b off vw n_kids vG,A = some ⟨b,off,none⟩ ∧ D b ∧ w.cell? ⟨b,off + i * 6,none⟩ = some (.int .i64 t.kind) ∧ w.cell? ⟨b,off + i * 6 + 1,none⟩ = some (.string ⟨t.name.toArray⟩) ∧ w.cell? ⟨b,off + i * 6 + 2,none⟩ = some (.int .i64 t.vs) ∧ w.cell? ⟨b,off + i * 6 + 3,none⟩ = some (.int .i64 t.vn) ∧ w.cell? ⟨b,off + i * 6 + 4,none⟩ = some (.string ⟨t.vt.toArray⟩) ∧ w.cell? ⟨b,off + i * 6 + 5,none⟩ = some (.slice vw n_kids vG) ∧ uz D w (.slice vw n_kids vG) t.kids:=by
 obtain ⟨A',cap',e,hle,-,h3⟩:=h
 injection e with e1 e2 e3
 subst e1 e2 e3
 have hlt:=(List.getElem?_eq_some_iff.1 hi).1
 obtain ⟨b,off,rfl,hd,hr⟩:=h3 (by omega)
 obtain ⟨ak,x0,x1,x2,x3,x4,x5,ja⟩:=(uG _ _ _ _ _).1 (ExRow_at hr hi)
 have zQ:=ja
 obtain ⟨vw,vG,rfl,-,-⟩:=ja
 exact ⟨rfl,hle,b,off,_,_,_,rfl,hd,x0,x1,x2,x3,x4,x5,zQ⟩
theorem rD {D : aj} {w : World} {t : Ex} {ak : Value} (ja : uz D w ak t.kids) : uy D w (.agg #[.int .i64 t.kind,.string ⟨t.name.toArray⟩,.int .i64 t.vs,.int .i64 t.vn,.string ⟨t.vt.toArray⟩,ak]) t:=⟨_,rfl,ja⟩
inductive nV (D : aj) (w : World) : List Value → List Ex → Prop where
 | nil : nV D w [] []
 | cons (t : Ex) (ak : Value) (xs : List Value) (ts : List Ex) (ja : uz D w ak t.kids) (h : nV D w xs ts) :
   nV D w (.int .i64 t.kind :: .string ⟨t.name.toArray⟩ :: .int .i64 t.vs :: .int .i64 t.vn :: .string ⟨t.vt.toArray⟩ :: ak :: xs) (t :: ts)
theorem nV.length {D : aj} {w : World} {xs : List Value} {ts : List Ex} (h : nV D w xs ts) : xs.length = ts.length * 6:=by
 induction h with
 | nil => rfl
 | cons => simp only [List.length_cons]; omega
theorem nV.one {D : aj} {w : World} {xs : List Value} {ts : List Ex} (h : nV D w xs ts) : ∀ u ∈ xs,u.oneCell' = true:=by
 induction h with
 | nil => simp
 | cons t ak xs ts ja _ ih =>
  intro u hu
  simp only [List.mem_cons] at hu
  rcases hu with rfl | rfl | rfl | rfl | rfl | rfl | hu
  ·rfl
  ·rfl
  ·rfl
  ·rfl
  ·rfl
  ·exact ja.one
  ·exact ih u hu
theorem nV.append {D : aj} {w : World} {xs ys : List Value} {ts us : List Ex} (h : nV D w xs ts) (h' : nV D w ys us) : nV D w (xs ++ ys) (ts ++ us):=by
 induction h with
 | nil => exact h'
 | cons t ak xs ts ja _ ih => exact .cons t ak _ _ ja ih
theorem nV.keep {D D' : aj} {w w' : World} {xs : List Value} {ts : List Ex} (h : nV D w xs ts) (hs : Same D w w') (hD : ∀ b,D b → b < w.heap.size → D' b) : nV D' w' xs ts:=by
 induction h with
 | nil => exact .nil
 | cons t ak xs ts ja _ ih => exact .cons t ak _ _ (ja.keep hs hD) ih
theorem nV.row {D : aj} {w : World} {b : Nat} {xs : List Value} {ts : List Ex} (h : nV D w xs ts) : ∀ (off : Nat),(∀ j u,xs[j]? = some u → w.cell? ⟨b,off + j,none⟩ = some u) → uH D w b off ts:=by
 induction h with
 | nil => intro off _; simp [uH]
 | cons t ak xs ts ja _ ih =>
  intro off hc
  refine ⟨(uG _ _ _ _ _).2 ⟨ak,hc 0 _ rfl,hc 1 _ rfl,hc 2 _ rfl,hc 3 _ rfl,hc 4 _ rfl,hc 5 _ rfl,ja⟩,ih (off + 6) fun j u hj => ?_⟩
  have:=hc (j + 6) u (by simpa using hj)
  rw [show off + 6 + j = off + (j + 6) by omega]
  exact this
theorem own_exs {D : aj} {w : World} {base : Nat} {E : TypeId} {v : Value} {xs : List Value} {ts : List Ex} (h : w.ownsRow base E 6 v ts.length xs) (hc : nV D w xs ts) (hD : ∀ b,base ≤ b → D b) : uz D w v ts:=by
 have hcells:=fun g => h.cells (g:=g)
 rcases h.2 with ⟨rfl,h0⟩ | ⟨g,cap,cur,rfl,hg,_,hn,_⟩
 ·refine ⟨none,0,by rw [h0],by omega,fun _ => rfl,fun h1 => by omega⟩
 ·refine ⟨_,cap,rfl,hn,(fun e => by cases e),fun _ => ⟨g,0,rfl,hD g hg,hc.row 0 fun j u hj => ?_⟩⟩
  have:=hcells g rfl j u hj
  rw [Go.WideShapes.add_plain] at this
  exact this
structure jf (w : World) (b : Nat) (t : Ex) (ak : Value) : Prop where
 c0 : w.cell? ⟨b,0,none⟩ = some (.int .i64 t.kind)
 c1 : w.cell? ⟨b,1,none⟩ = some (.string ⟨t.name.toArray⟩)
 c2 : w.cell? ⟨b,2,none⟩ = some (.int .i64 t.vs)
 c3 : w.cell? ⟨b,3,none⟩ = some (.int .i64 t.vn)
 c4 : w.cell? ⟨b,4,none⟩ = some (.string ⟨t.vt.toArray⟩)
 c5 : w.cell? ⟨b,5,none⟩ = some (ak)
 fr : ∀ j,w.frozen? ⟨b,j,none⟩ = false
 lt : b < w.heap.size
theorem jf.keep {w w' : World} {b B : Nat} {t : Ex} {ak : Value} (h : jf w b t ak) (hb : Below B w w') (hB : b < B) : jf w' b t ak :=
 ⟨(hb.cell (p:=⟨b,0,none⟩) hB).trans h.c0,(hb.cell (p:=⟨b,1,none⟩) hB).trans h.c1,(hb.cell (p:=⟨b,2,none⟩) hB).trans h.c2,(hb.cell (p:=⟨b,3,none⟩) hB).trans h.c3,(hb.cell (p:=⟨b,4,none⟩) hB).trans h.c4,(hb.cell (p:=⟨b,5,none⟩) hB).trans h.c5,fun j => (hb.frozen (p:=⟨b,j,none⟩) hB).trans (h.fr j),Nat.lt_of_lt_of_le h.lt hb.size⟩
theorem jf.far {w : World} {b : Nat} {t : Ex} {ak : Value} (h : jf w b t ak) {p : Addr} (hp : p.block ≠ b) (u : Value) : jf (w.setCell p u) b t ak :=
 ⟨(World.cell?_setCell_far w p _ u hp).trans h.c0,(World.cell?_setCell_far w p _ u hp).trans h.c1,(World.cell?_setCell_far w p _ u hp).trans h.c2,(World.cell?_setCell_far w p _ u hp).trans h.c3,(World.cell?_setCell_far w p _ u hp).trans h.c4,(World.cell?_setCell_far w p _ u hp).trans h.c5,fun j => by rw [World.frozen?_setCell]; exact h.fr j,by rw [World.size_setCell]; exact h.lt⟩
theorem jf.drewN {w : World} {b : Nat} {t : Ex} {ak : Value} (h : jf w b t ak) (n : Nat) : jf (w.drewN n) b t ak:=⟨h.c0,h.c1,h.c2,h.c3,h.c4,h.c5,h.fr,h.lt⟩
theorem jf.grown {w w' : World} {b : Nat} {row : Option Nat} {t : Ex} {ak : Value} (h : jf w b t ak) (hg : w.grownBy w' row) (hb : some b ≠ row) : jf w' b t ak:=by
 have hc : ∀ j,w'.cell? ⟨b,j,none⟩ = w.cell? ⟨b,j,none⟩:=fun j => World.cell?_of_block (a:=⟨b,j,none⟩) (hg.block b h.lt hb)
 have hf : ∀ j,w'.frozen? ⟨b,j,none⟩ = w.frozen? ⟨b,j,none⟩:=fun j => World.frozen?_of_block (a:=⟨b,j,none⟩) (hg.block b h.lt hb)
 exact ⟨(hc 0).trans h.c0,(hc 1).trans h.c1,(hc 2).trans h.c2,(hc 3).trans h.c3,(hc 4).trans h.c4,(hc 5).trans h.c5,fun j => (hf j).trans (h.fr j),Nat.lt_of_lt_of_le h.lt hg.size⟩
theorem jf.set0 {w : World} {b : Nat} {t : Ex} {ak : Value} (h : jf w b t ak) (x : Int) : jf (w.setCell ⟨b,0,none⟩ (.int .i64 x)) b (.mk x t.name t.vs t.vn t.vt t.kids) ak :=
 ⟨uA h.c0,(fK (by decide)).trans h.c1,(fK (by decide)).trans h.c2,(fK (by decide)).trans h.c3,(fK (by decide)).trans h.c4,(fK (by decide)).trans h.c5,fun j => by rw [World.frozen?_setCell]; exact h.fr j,by rw [World.size_setCell]; exact h.lt⟩
theorem jf.set1 {w : World} {b : Nat} {t : Ex} {ak : Value} (h : jf w b t ak) (x : Str) : jf (w.setCell ⟨b,1,none⟩ (.string ⟨x.toArray⟩)) b (.mk t.kind x t.vs t.vn t.vt t.kids) ak :=
 ⟨(fK (by decide)).trans h.c0,uA h.c1,(fK (by decide)).trans h.c2,(fK (by decide)).trans h.c3,(fK (by decide)).trans h.c4,(fK (by decide)).trans h.c5,fun j => by rw [World.frozen?_setCell]; exact h.fr j,by rw [World.size_setCell]; exact h.lt⟩
theorem jf.set2 {w : World} {b : Nat} {t : Ex} {ak : Value} (h : jf w b t ak) (x : Int) : jf (w.setCell ⟨b,2,none⟩ (.int .i64 x)) b (.mk t.kind t.name x t.vn t.vt t.kids) ak :=
 ⟨(fK (by decide)).trans h.c0,(fK (by decide)).trans h.c1,uA h.c2,(fK (by decide)).trans h.c3,(fK (by decide)).trans h.c4,(fK (by decide)).trans h.c5,fun j => by rw [World.frozen?_setCell]; exact h.fr j,by rw [World.size_setCell]; exact h.lt⟩
theorem jf.set3 {w : World} {b : Nat} {t : Ex} {ak : Value} (h : jf w b t ak) (x : Int) : jf (w.setCell ⟨b,3,none⟩ (.int .i64 x)) b (.mk t.kind t.name t.vs x t.vt t.kids) ak :=
 ⟨(fK (by decide)).trans h.c0,(fK (by decide)).trans h.c1,(fK (by decide)).trans h.c2,uA h.c3,(fK (by decide)).trans h.c4,(fK (by decide)).trans h.c5,fun j => by rw [World.frozen?_setCell]; exact h.fr j,by rw [World.size_setCell]; exact h.lt⟩
theorem jf.set4 {w : World} {b : Nat} {t : Ex} {ak : Value} (h : jf w b t ak) (x : Str) : jf (w.setCell ⟨b,4,none⟩ (.string ⟨x.toArray⟩)) b (.mk t.kind t.name t.vs t.vn x t.kids) ak :=
 ⟨(fK (by decide)).trans h.c0,(fK (by decide)).trans h.c1,(fK (by decide)).trans h.c2,(fK (by decide)).trans h.c3,uA h.c4,(fK (by decide)).trans h.c5,fun j => by rw [World.frozen?_setCell]; exact h.fr j,by rw [World.size_setCell]; exact h.lt⟩
theorem jf.set5 {w : World} {b : Nat} {t : Ex} {ak : Value} (h : jf w b t ak) (v : Value) (x : List Ex) : jf (w.setCell ⟨b,5,none⟩ (v)) b (.mk t.kind t.name t.vs t.vn t.vt x) v :=
 ⟨(fK (by decide)).trans h.c0,(fK (by decide)).trans h.c1,(fK (by decide)).trans h.c2,(fK (by decide)).trans h.c3,(fK (by decide)).trans h.c4,uA h.c5,fun j => by rw [World.frozen?_setCell]; exact h.fr j,by rw [World.size_setCell]; exact h.lt⟩
theorem jf.fill {w : World} {b : Nat} {t0 : Ex} {u_kids : Value} (h : jf w b t0 u_kids) (t : Ex) (ak : Value) :
  jf ((((((w.setCell ⟨b,0,none⟩ (.int .i64 t.kind)).setCell ⟨b,1,none⟩ (.string ⟨t.name.toArray⟩)).setCell ⟨b,2,none⟩ (.int .i64 t.vs)).setCell ⟨b,3,none⟩ (.int .i64 t.vn)).setCell ⟨b,4,none⟩ (.string ⟨t.vt.toArray⟩)).setCell ⟨b,5,none⟩ (ak)) b t ak:=by
 have:=((((((h.set0 t.kind).set1 t.name).set2 t.vs).set3 t.vn).set4 t.vt).set5 ak t.kids)
 cases t
 exact this
theorem pG (w : World) (t : Ex) (ak : Value) (E : TypeId) : jf (w.alloc (.cells #[.int .i64 t.kind,.string ⟨t.name.toArray⟩,.int .i64 t.vs,.int .i64 t.vn,.string ⟨t.vt.toArray⟩,ak] E)) w.heap.size t ak :=
 ⟨by simp [go_sem],by simp [go_sem],by simp [go_sem],by simp [go_sem],by simp [go_sem],by simp [go_sem],fun j => by simp [go_sem],by simp⟩
theorem no_exs (D : aj) (w : World) : uz D w (.slice none 0 0) []:=⟨none,0,rfl,Nat.le_refl _,fun _ => rfl,fun h => by simp at h⟩
theorem JQ : oD Tryz.prog 50 52 6 80:=.mk' (z:=.agg #[.int .i64 0,.string ⟨#[]⟩,.int .i64 0,.int .i64 0,.string ⟨#[]⟩,.slice none 0 0]) Tryz.underlying50 (by kernel_rfl) rfl (by decide)
theorem uH.cells {D : aj} {w : World} {b : Nat} : ∀ {ts : List Ex} {off : Nat},uH D w b off ts → ∃ xs,nV D w xs ts ∧ ∀ j u,xs[j]? = some u → w.cell? ⟨b,off + j,none⟩ = some u:=by
 intro ts
 induction ts with
 | nil => intro off _; exact ⟨[],.nil,fun j u h => by simp at h⟩
 | cons t r ih =>
  intro off h
  simp only [uH] at h
  obtain ⟨xs,h1,h2⟩:=ih h.2
  obtain ⟨ak,x0,x1,x2,x3,x4,x5,ja⟩:=(uG _ _ _ _ _).1 h.1
  refine ⟨_,.cons t ak xs r ja h1,fun j u hj => ?_⟩
  match j,hj with
  | 0,hj => simp at hj; subst hj; exact x0
  | 1,hj => simp at hj; subst hj; exact x1
  | 2,hj => simp at hj; subst hj; exact x2
  | 3,hj => simp at hj; subst hj; exact x3
  | 4,hj => simp at hj; subst hj; exact x4
  | 5,hj => simp at hj; subst hj; exact x5
  | j + 6,hj =>
   have:=h2 j u (by simpa using hj)
   rw [show off + (j + 6) = off + 6 + j by omega]
   exact this
theorem uz.src {D : aj} {w : World} {A : Option Addr} {n c : Nat} {ts : List Ex} (h : uz D w (.slice A n c) ts) : n = ts.length ∧ n ≤ c ∧ (A = none → n = 0 ∧ c = 0) ∧ ∃ xs,nV D w xs ts ∧ ∀ ad,A = some ad → ∀ j u,xs[j]? = some u → w.cell? (ad.add j) = some u:=by
 obtain ⟨A',c',e,hle,hz,h3⟩:=h
 injection e with e1 e2 e3
 subst e1 e2 e3
 refine ⟨rfl,hle,fun e => ⟨by have:=hz e; omega,hz e⟩,?_⟩
 rcases Nat.eq_zero_or_pos ts.length with h0 | h0
 ·obtain rfl:=List.eq_nil_of_length_eq_zero h0
  exact ⟨[],.nil,fun _ _ j u hj => by simp at hj⟩
 ·obtain ⟨b,off,rfl,-,hr⟩:=h3 h0
  obtain ⟨xs,h1,h2⟩:=hr.cells
  refine ⟨xs,h1,fun ad e j u hj => ?_⟩
  obtain rfl:=Option.some.inj e
  rw [Go.WideShapes.add_plain]
  exact h2 j u hj
theorem uz.tail {D : aj} {w : World} {b off n cap c : Nat} {t : Ex} {ts : List Ex} (h : uz D w (.slice (some ⟨b,off,none⟩) n cap) (t :: ts)) (hc : ts.length ≤ c) : uz D w (.slice (some ⟨b,off + 6,none⟩) ts.length c) ts:=by
 obtain ⟨A',c',e,hle,hz,h3⟩:=h
 injection e with e1 e2 e3
 obtain ⟨b',off',e',hd,hr⟩:=h3 (by simp)
 rw [← e1] at e'
 obtain ⟨rfl,rfl⟩ : b = b' ∧ off = off':=by have:=Option.some.inj e'; injection this with h1 h2; exact ⟨h1,h2⟩
 exact ⟨_,c,rfl,hc,(fun e => by cases e),fun _ => ⟨b,off + 6,rfl,hd,hr.2⟩⟩
end Go.Proofs.YtpidjanngbaiiaaGreatDoor
namespace Go.Proofs.YtpidjanngbaiiaaGreatDoor
open Go.RowKit Go.Proofs
set_option maxRecDepth 100000
set_option maxHeartbeats 32000000

inductive Ty where
 | mk (kind sort : Int) (name : Str) (labels : List Str) (kids : List Ty)

namespace Ty
set_option maxRecDepth 100000
set_option maxHeartbeats 32000000
def kind : Ty → Int | mk k _ _ _ _ => k
def sort : Ty → Int | mk _ s _ _ _ => s
def name : Ty → Str | mk _ _ n _ _ => n
def labels : Ty → List Str | mk _ _ _ l _ => l
def kids : Ty → List Ty | mk _ _ _ _ k => k
end Ty

mutual
def Bv (w : World) (b off : Nat) : Ty → Prop
 | .mk k s n ls ks => ∃ lv kv,w.cell? ⟨b,off,none⟩ = some (.int .i64 k) ∧ w.cell? ⟨b,off + 1,none⟩ = some (.int .i64 s) ∧ w.cell? ⟨b,off + 2,none⟩ = some (.string ⟨n.toArray⟩) ∧ w.cell? ⟨b,off + 3,none⟩ = some lv ∧ w.cell? ⟨b,off + 4,none⟩ = some kv ∧
   aF w lv ls ∧ ∃ A cap,kv = .slice A ks.length cap ∧ ks.length ≤ cap ∧ (0 < ks.length → ∃ b' off',A = some ⟨b',off',none⟩ ∧ qU w b' off' ks)
def qU (w : World) (b off : Nat) : List Ty → Prop
 | [] => True
 | t :: r => Bv w b off t ∧ qU w b (off + 5) r
end
def qg (w : World) (v : Value) (ks : List Ty) : Prop:=∃ A cap,v = .slice A ks.length cap ∧ ks.length ≤ cap ∧ (0 < ks.length → ∃ b off,A = some ⟨b,off,none⟩ ∧ qU w b off ks)
def ny (w : World) (v : Value) (t : Ty) : Prop:=∃ lv kv,v = .agg #[.int .i64 t.kind,.int .i64 t.sort,.string ⟨t.name.toArray⟩,lv,kv] ∧ aF w lv t.labels ∧ qg w kv t.kids

theorem xq (w : World) (b off : Nat) (t : Ty) : Bv w b off t ↔ ∃ lv kv,w.cell? ⟨b,off,none⟩ = some (.int .i64 t.kind) ∧ w.cell? ⟨b,off + 1,none⟩ = some (.int .i64 t.sort) ∧ w.cell? ⟨b,off + 2,none⟩ = some (.string ⟨t.name.toArray⟩) ∧ w.cell? ⟨b,off + 3,none⟩ = some lv ∧ w.cell? ⟨b,off + 4,none⟩ = some kv ∧
  aF w lv t.labels ∧ qg w kv t.kids:=by
 cases t with
 | mk k s n ls ks => simp only [Bv,qg,Ty.kind,Ty.sort,Ty.name,Ty.labels,Ty.kids]
theorem TyRow_at {w : World} {b : Nat} : ∀ {ks : List Ty} {off i : Nat} {t : Ty},qU w b off ks → ks[i]? = some t → Bv w b (off + i * 5) t:=by
 intro ks
 induction ks with
 | nil => intro off i t _ h; simp at h
 | cons x r ih =>
  intro off i t h hi
  simp only [qU] at h
  match i,hi with
  | 0,hi => simp at hi; subst hi; simpa using h.1
  | i + 1,hi =>
   have:=ih h.2 (by simpa using hi)
   rw [show off + (i + 1) * 5 = off + 5 + i * 5 by omega]
   exact this
theorem Ff {w : World} {b : Nat} : ∀ {ks : List Ty} {off : Nat},(∀ i t,ks[i]? = some t → Bv w b (off + i * 5) t) → qU w b off ks:=by
 intro ks
 induction ks with
 | nil => intro off _; simp [qU]
 | cons x r ih =>
  intro off h
  simp only [qU]
  refine ⟨by simpa using h 0 x rfl,ih fun i t hi => ?_⟩
  have:=h (i + 1) t (by simpa using hi)
  rw [show off + (i + 1) * 5 = off + 5 + i * 5 by omega] at this
  exact this

mutual
theorem TyAt_keep {w w' : World} (hb : Below w.heap.size w w') : ∀ {b off : Nat} (t : Ty),Bv w b off t → Bv w' b off t
 | b,off,.mk k s n ls ks => by
  simp only [Bv]
  rintro ⟨lv,kv,h0,h1,h2,h3,h4,h5,A,cap,h6,h7,h8⟩
  exact ⟨lv,kv,ae h0 hb,ae h1 hb,ae h2 hb,ae h3 hb,ae h4 hb,h5.keep hb,A,cap,h6,h7,fun h0 => let ⟨b,off,e,hr⟩:=h8 h0; ⟨b,off,e,yS hb ks hr⟩⟩
theorem yS {w w' : World} (hb : Below w.heap.size w w') : ∀ {b off : Nat} (ks : List Ty),qU w b off ks → qU w' b off ks
 | _,_,[] => by simp [qU]
 | b,off,t :: r => by
  simp only [qU]
  rintro ⟨h1,h2⟩
  exact ⟨TyAt_keep hb t h1,yS hb r h2⟩
end
theorem qg.keep {w w' : World} {v : Value} {ks : List Ty} (h : qg w v ks) (hb : Below w.heap.size w w') : qg w' v ks:=by
 obtain ⟨A,cap,h1,h2,h3⟩:=h
 exact ⟨A,cap,h1,h2,fun h0 => let ⟨b,off,e,hr⟩:=h3 h0; ⟨b,off,e,yS hb ks hr⟩⟩
theorem ny.keep {w w' : World} {v : Value} {t : Ty} (h : ny w v t) (hb : Below w.heap.size w w') : ny w' v t:=by
 obtain ⟨lv,kv,h1,h2,h3⟩:=h
 exact ⟨lv,kv,h1,h2.keep hb,h3.keep hb⟩
end Go.Proofs.YtpidjanngbaiiaaGreatDoor
namespace Go.Proofs.YtpidjanngbaiiaaGreatDoor
open Go.RowKit Go.Proofs
set_option maxRecDepth 100000
set_option maxHeartbeats 32000000

def low (l : Str) : Bool:=l.all fun b => decide (97 ≤ b.toNat) && decide (b.toNat ≤ 122)
def alphabet : Str:=[97,98,99,100,101,102,103,104,105,106,107,108,109,110,111,112,113,114,115,116,117,118,119,120,121,122]
def words : List Str:=[[116,114,117,101],[102,97,108,115,101],[97,110,100],[111,114],[110,111,116]]
def small (l : Str) : Bool:=low l && decide (1 ≤ l.length) && decide (l.length ≤ 8)
def ah (l : Str) : Bool:=small l && !decide (l ∈ words)
def isVar (l : Str) : Bool:=ah l && (!(l == [101,110,100]) && !(l == [114,101,99]))

theorem alphabet_has (b : UInt8) : alphabet.contains b = (decide (97 ≤ b.toNat) && decide (b.toNat ≤ 122)):=by
 have : ∀ n : Fin 256,alphabet.contains (UInt8.ofNat n.val) = (decide (97 ≤ n.val) && decide (n.val ≤ 122)):=by decide +kernel
 have h:=this ⟨b.toNat,b.toNat_lt⟩
 simpa using h
theorem Jm {p : UInt8 → Bool} : ∀ {l : Str},(∀ b ∈ l.dropWhile p,p b = true) → ∀ b ∈ l,p b = true:=by
 intro l
 induction l with
 | nil => intro _ b hb; simp at hb
 | cons x l ih =>
  intro h b hb
  by_cases hx : p x = true
  ·rw [List.dropWhile_cons,if_pos hx] at h
   rcases List.mem_cons.1 hb with rfl | hb
   ·exact hx
   ·exact ih h b hb
  ·rw [List.dropWhile_cons,if_neg hx] at h
   exact h b hb
theorem dw_nil {p : UInt8 → Bool} : ∀ {l : Str},(∀ b ∈ l,p b = true) → l.dropWhile p = []:=by
 intro l
 induction l with
 | nil => intro _; rfl
 | cons x l ih =>
  intro h
  rw [List.dropWhile_cons,if_pos (h x (by simp))]
  exact ih fun b hb => h b (by simp [hb])
theorem F7 (l : Str) : Lib.trimS l alphabet = [] ↔ low l = true:=by
 unfold Lib.trimS Lib.trimLeftS Lib.trimRightS low
 rw [List.all_eq_true]
 have he : ∀ b,(decide (97 ≤ b.toNat) && decide (b.toNat ≤ 122)) = alphabet.contains b:=fun b => (alphabet_has b).symm
 simp only [he]
 constructor
 ·intro h
  have h1 : ∀ b ∈ (l.reverse.dropWhile (alphabet.contains ·)).reverse,alphabet.contains b = true:=Jm (by rw [h]; simp)
  have h2:=Jm (p:=(alphabet.contains ·)) (l:=l.reverse) fun b hb => h1 b (by simpa using hb)
  intro b hb
  exact h2 b (by simpa using hb)
 ·intro h
  have h1 : l.reverse.dropWhile (alphabet.contains ·) = []:=dw_nil fun b hb => h b (by simpa using hb)
  rw [h1]
  rfl
theorem contains_mk (zs : List Str) (x : Str) : Lib.containsS (zs.map fun s => ⟨s.toArray⟩) ⟨x.toArray⟩ = decide (x ∈ zs):=by
 rw [Bool.eq_iff_iff,Lib.containsS_iff,decide_eq_true_eq,List.mem_map]
 constructor
 ·rintro ⟨s,hs,h⟩
  rw [mk_inj] at h
  exact h ▸ hs
 ·intro h
  exact ⟨x,h,rfl⟩

theorem nY {w : World} {v : Value} {zs : List Str} (h : aF w v zs) (hl : zs.length ≤ 9223372036854775807) (x : Str) :
  Calls Tryz.prog 62 #[v,.string ⟨x.toArray⟩] w fun e w' => e = .returned (.bool (decide (x ∈ zs))) ∧ w' = w:=by
 obtain ⟨A,cap,rfl,hc,h3⟩:=h
 rcases Nat.eq_zero_or_pos zs.length with h0 | h0
 ·obtain rfl:=List.eq_nil_of_length_eq_zero h0
  simpa using Tryz.slices_Contains_string_empty A cap ⟨x.toArray⟩ w
 ·obtain ⟨b,off,rfl,hr⟩:=h3 h0
  have:=Tryz.slices_Contains_string b off zs.length cap (zs.map fun s => ⟨s.toArray⟩) ⟨x.toArray⟩ w (by simp) hl (by
   intro j hj
   have hj' : j < zs.length:=by simpa using hj
   rw [hr j zs[j] (by simp [hj'])]
   simp [List.getD,hj'])
  rw [List.take_of_length_le (by simp),contains_mk] at this
  exact this

theorem Dc {l : Str} {k : Nat} {x : UInt8} (h : l[k]? = some x) : low (l.drop k) = ((decide (97 ≤ x.toNat) && decide (x.toNat ≤ 122)) && low (l.drop (k + 1))):=by
 obtain ⟨h1,h2⟩:=List.getElem?_eq_some_iff.1 h
 rw [List.drop_eq_getElem_cons h1,h2]
 rfl
theorem Eg (l : Str) (w : World) (hl : l.length ≤ 9223372036854775807) :
  Calls Tryz.prog 63 #[.string ⟨l.toArray⟩] w fun e w' => e = .returned (.bool (small l)) ∧ w' = w:=by
 obtain ⟨ANS,hA⟩ : ∃ x,small l = x:=⟨_,rfl⟩
 have HA:=zH hA; rw [hA]; clear hA
 go_enter Tryz.func63,Tryz.ntmps63
 go_wp2
 go_loop [3] (fun i => ∃ k : Nat,k ≤ l.length ∧ i = .int .i64 k ∧ Hid (low l = low (l.drop k))) (fun i => l.length - (intOf i).toNat)
 case atStart => exact ⟨0,by omega,rfl,rfl⟩
 case round =>
  obtain ⟨k,hk,rfl,hf⟩:=hrel
  by_cases hlt : k < l.length
  ·obtain ⟨x,hx⟩ : ∃ x,l[k]? = some x:=⟨_,List.getElem?_eq_getElem hlt⟩
   have HX:=zH hx; clear hx
   have E : ((⟨l.toArray⟩ : ByteArray)[k]'(by simpa [ByteArray.size] using hlt)).toNat = x.toNat:=by rw [byte_at' HX.out]
   go_wp2_with fail
   ·go_ret
    refine ⟨ax ?_,rfl⟩
    have:=hf.out
    rw [Dc HX.out] at this
    rw [← HA.out]
    have hx : ¬ (97 ≤ x.toNat ∧ x.toNat ≤ 122):=by omega
    unfold small
    rw [this]
    by_cases h97 : 97 ≤ x.toNat
    ·have : ¬ x.toNat ≤ 122:=fun h => hx ⟨h97,h⟩
     simp [this]
    ·simp [h97]
   ·refine ⟨⟨k + 1,by omega,by simp,?_⟩,by simp [intOf]; omega⟩
    show low l = _
    have:=hf.out
    rw [Dc HX.out] at this
    have e1 : 97 ≤ x.toNat:=by omega
    have e2 : x.toNat ≤ 122:=by omega
    rw [this]
    simp [e1,e2]
   ·go_ret
    refine ⟨ax ?_,rfl⟩
    have:=hf.out
    rw [Dc HX.out] at this
    rw [← HA.out]
    have h97 : ¬ 97 ≤ x.toNat:=by omega
    unfold small
    rw [this]
    simp [h97]
  ·have hk' : k = l.length:=by omega
   subst hk'
   clear hlt
   have hlow : low l = true:=by rw [hf.out]; simp [low]
   have HL:=zH hlow; clear hlow hf
   go_wp2_with fail
   ·go_ret
    refine ⟨ax ?_,rfl⟩
    rw [← HA.out]
    unfold small
    rw [HL.out]
    have e1 : 1 ≤ l.length:=by omega
    simp [e1]
    omega
   ·go_ret
    refine ⟨ax ?_,rfl⟩
    rw [← HA.out]
    unfold small
    have e1 : ¬ 1 ≤ l.length:=by omega
    simp [e1]

theorem F9 (w : World) : aF (w.alloc (.cells #[.string ⟨#[116,114,117,101]⟩,.string ⟨#[102,97,108,115,101]⟩,.string ⟨#[97,110,100]⟩,.string ⟨#[111,114]⟩,.string ⟨#[110,111,116]⟩] 9)) (.slice (some ⟨w.heap.size,0,none⟩) 5 5) words:=by
 refine ⟨_,5,rfl,by decide,fun _ => ⟨w.heap.size,0,rfl,fun i s hi => ?_⟩⟩
 match i,hi with
 | 0,hi | 1,hi | 2,hi | 3,hi | 4,hi => simp [words] at hi; subst hi; simp [go_sem]
 | i + 5,hi => simp [words] at hi

theorem lI (l : Str) (w : World) (hl : l.length ≤ 9223372036854775807) :
  Calls Tryz.prog 22 #[.string ⟨l.toArray⟩] w fun e w' => e = .returned (.bool (ah l)) ∧ Below w.heap.size w w':=by
 obtain ⟨ANS,hA⟩ : ∃ x,ah l = x:=⟨_,rfl⟩
 have HA:=zH hA; rw [hA]; clear hA
 cases hs : small l with
 | false =>
  have HS:=zH hs; clear hs
  go_enter Tryz.func22,Tryz.ntmps22
  go_wp2_with fail
  refine (Eg l _ hl).mono ?_; rw [HS.out]; rintro e w1 ⟨rfl,rfl⟩
  go_wp2_with fail
  go_ret
  exact ⟨ax (by rw [← HA.out]; simp [ah,HS.out]),by go_grown⟩
 | true =>
  have HS:=zH hs; clear hs
  go_enter Tryz.func22,Tryz.ntmps22
  go_wp2_with fail
  refine (Eg l _ hl).mono ?_; rw [HS.out]; rintro e w1 ⟨rfl,rfl⟩
  go_wp2_with fail
  refine (nY (F9 _) (by decide) l).mono ?_; rintro e w1 ⟨rfl,rfl⟩
  go_wp2_with fail
  go_ret
  exact ⟨ax (by rw [← HA.out]; simp [ah,HS.out]),by go_grown⟩

theorem F6 (l : Str) (w : World) (hl : l.length ≤ 9223372036854775807) :
  Calls Tryz.prog 61 #[.string ⟨l.toArray⟩,.string ⟨#[97,98,99,100,101,102,103,104,105,106,107,108,109,110,111,112,113,114,115,116,117,118,119,120,121,122]⟩] w fun e w' => e = .returned (.string ⟨(Lib.trimS l alphabet).toArray⟩) ∧ Below w.heap.size w w' :=
 Any.strings_Trim_laid Tryz.lays160 (by kernel_rfl) ⟨l.toArray⟩ ⟨alphabet.toArray⟩ w (by rw [Lib.size_eq]; exact hl) (by decide) (ascii_of_all (by decide +kernel))
theorem ig (l : Str) (w : World) (hl : l.length ≤ 9223372036854775807) :
    Calls Tryz.prog 21 #[.string ⟨l.toArray⟩] w fun e w' => e = .returned (.bool (ah l)) ∧ Below w.heap.size w w':=by
  obtain ⟨ANS,hA⟩ : ∃ x,ah l = x:=⟨_,rfl⟩
  have HA:=zH hA; rw [hA]; clear hA
  by_cases h0 : l = []
  · subst h0
    go_enter Tryz.func21,Tryz.ntmps21
    go_wp2_with fail
    go_ret
    exact ⟨ax (by rw [← HA.out]; rfl),by go_grown⟩
  · have h1 : 1 ≤ l.length:=by
     have : l.length ≠ 0:=by simpa using h0
     omega
    obtain ⟨T,hT⟩ : ∃ x,Lib.trimS l alphabet = x:=⟨_,rfl⟩
    have HT:=zH hT; clear hT
    by_cases hlow : low l = true
    · have hT0 : T = []:=by rw [← HT.out]; exact (F7 l).2 hlow
      subst hT0
      have HL:=zH hlow; clear hlow
      have H1:=zH h1; clear h1
      have hE : l.isEmpty = false:=by simpa using h0
      go_enter Tryz.func21,Tryz.ntmps21
      go_wp2_with fail
      · refine (F6 l _ hl).mono ?_; rw [HT.out]; rintro e w1 ⟨rfl,hb1⟩
        have h8 : decide (8 < (l.length : Int)) = false:=by simp; omega
        go_wp2_with fail
        refine (nY (F9 _) (by decide) l).mono ?_; rintro e w1 ⟨rfl,rfl⟩
        go_wp2_with fail
        go_ret
        refine ⟨ax ?_,chain hb1 (by go_grown)⟩
        have e1:=H1.out
        have e2 : l.length ≤ 8:=by omega
        rw [← HA.out]; simp [ah,small,HL.out,e1,e2]
      · go_ret
        refine ⟨ax ?_,by go_grown⟩
        have e2 : ¬ l.length ≤ 8:=by omega
        rw [← HA.out]; simp [ah,small,e2]
    · have hT0 : T ≠ []:=by rw [← HT.out]; exact fun h => hlow ((F7 l).1 h)
      have hT1 : T.isEmpty = false:=by simpa using hT0
      have hlow' : low l = false:=by simpa using hlow
      have HL:=zH hlow'; clear hlow hlow' hT0
      have H1:=zH h1; clear h1
      go_enter Tryz.func21,Tryz.ntmps21
      go_wp2_with fail
      · refine (F6 l _ hl).mono ?_; rw [HT.out]; rintro e w1 ⟨rfl,hb1⟩
        go_wp2_with fail
        go_ret
        refine ⟨ax ?_,by go_grown⟩
        rw [← HA.out]; simp [ah,small,HL.out]
      · go_ret
        refine ⟨ax ?_,by go_grown⟩
        rw [← HA.out]; simp [ah,small,HL.out]

theorem zS (l : Str) (w : World) (hl : l.length ≤ 9223372036854775807) :
  Calls Tryz.prog 102 #[.string ⟨l.toArray⟩] w fun e w' => e = .returned (.bool (isVar l)) ∧ Below w.heap.size w w':=by
 obtain ⟨ANS,hA⟩ : ∃ x,isVar l = x:=⟨_,rfl⟩
 have HA:=zH hA; rw [hA]; clear hA
 obtain ⟨B,hs⟩ : ∃ x,ah l = x:=⟨_,rfl⟩
 have HS:=zH hs; clear hs
 cases B
 all_goals
  go_enter Tryz.func102,Tryz.ntmps102
  go_wp2_with fail
  refine (lI l _ hl).mono ?_; rw [HS.out]; rintro e w1 ⟨rfl,hb1⟩
  go_wp2_with fail
  all_goals
   go_ret
   exact ⟨ax (by rw [← HA.out]; simp [isVar,HS.out, *]),by go_grown⟩

theorem D9 (l : Str) (w : World) (hl : l.length ≤ 9223372036854775807) :
  Calls Tryz.prog 149 #[.string ⟨l.toArray⟩] w fun e w' => e = .returned (.bool (isVar l)) ∧ Below w.heap.size w w':=by
 obtain ⟨ANS,hA⟩ : ∃ x,isVar l = x:=⟨_,rfl⟩
 have HA:=zH hA; rw [hA]; clear hA
 obtain ⟨B,hs⟩ : ∃ x,ah l = x:=⟨_,rfl⟩
 have HS:=zH hs; clear hs
 cases B
 all_goals
  go_enter Tryz.func149,Tryz.ntmps149
  go_wp2_with fail
  refine (ig l _ hl).mono ?_; rw [HS.out]; rintro e w1 ⟨rfl,hb1⟩
  go_wp2_with fail
  all_goals
   go_ret
   exact ⟨ax (by rw [← HA.out]; simp [isVar,HS.out, *]),by go_grown⟩
end Go.Proofs.YtpidjanngbaiiaaGreatDoor
