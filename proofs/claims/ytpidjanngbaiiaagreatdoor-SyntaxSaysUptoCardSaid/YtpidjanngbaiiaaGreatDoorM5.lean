/-
  PrT VlP ExS PrS
-/
import Derived.Test.YtpidjanngbaiiaaGreatDoorM2
import Derived.Test.YtpidjanngbaiiaaGreatDoorM4
import Derived.Test.YtpidjanngbaiiaaGreatDoorM3
import Derived.Deep.MidRow
import Derived.Lib.ItoaNum
namespace Go.Proofs.YtpidjanngbaiiaaGreatDoor
open Go.RowKit Go.Proofs
set_option maxRecDepth 100000
set_option maxHeartbeats 32000000

theorem qZ.one {D : aj} {w : World} {v : Value} {l : List Ty} (h : qZ D w v l) : v.oneCell' = true:=by obtain ⟨A,cap,rfl,_⟩:=h; rfl
inductive Pr where
 | mk (kind : Int) (chan : Str) (name : Str) (label : Str) (xk : Int) (xn : Str) (xs : Int) (xv : Int) (xt : Str) (af : List Ex) (exprs : List Ex) (names : List Str) (tk : Int) (ts : Int) (tn : Str) (tl : List Str) (ag : List Ty) (labels : List Str) (kids : List Pr)
namespace Pr
set_option maxRecDepth 100000
set_option maxHeartbeats 32000000
def kind : Pr → Int | mk x _ _ _ _ _ _ _ _ _ _ _ _ _ _ _ _ _ _ => x
def chan : Pr → Str | mk _ x _ _ _ _ _ _ _ _ _ _ _ _ _ _ _ _ _ => x
def name : Pr → Str | mk _ _ x _ _ _ _ _ _ _ _ _ _ _ _ _ _ _ _ => x
def label : Pr → Str | mk _ _ _ x _ _ _ _ _ _ _ _ _ _ _ _ _ _ _ => x
def xk : Pr → Int | mk _ _ _ _ x _ _ _ _ _ _ _ _ _ _ _ _ _ _ => x
def xn : Pr → Str | mk _ _ _ _ _ x _ _ _ _ _ _ _ _ _ _ _ _ _ => x
def xs : Pr → Int | mk _ _ _ _ _ _ x _ _ _ _ _ _ _ _ _ _ _ _ => x
def xv : Pr → Int | mk _ _ _ _ _ _ _ x _ _ _ _ _ _ _ _ _ _ _ => x
def xt : Pr → Str | mk _ _ _ _ _ _ _ _ x _ _ _ _ _ _ _ _ _ _ => x
def af : Pr → List Ex | mk _ _ _ _ _ _ _ _ _ x _ _ _ _ _ _ _ _ _ => x
def exprs : Pr → List Ex | mk _ _ _ _ _ _ _ _ _ _ x _ _ _ _ _ _ _ _ => x
def names : Pr → List Str | mk _ _ _ _ _ _ _ _ _ _ _ x _ _ _ _ _ _ _ => x
def tk : Pr → Int | mk _ _ _ _ _ _ _ _ _ _ _ _ x _ _ _ _ _ _ => x
def ts : Pr → Int | mk _ _ _ _ _ _ _ _ _ _ _ _ _ x _ _ _ _ _ => x
def tn : Pr → Str | mk _ _ _ _ _ _ _ _ _ _ _ _ _ _ x _ _ _ _ => x
def tl : Pr → List Str | mk _ _ _ _ _ _ _ _ _ _ _ _ _ _ _ x _ _ _ => x
def ag : Pr → List Ty | mk _ _ _ _ _ _ _ _ _ _ _ _ _ _ _ _ x _ _ => x
def labels : Pr → List Str | mk _ _ _ _ _ _ _ _ _ _ _ _ _ _ _ _ _ x _ => x
def kids : Pr → List Pr | mk _ _ _ _ _ _ _ _ _ _ _ _ _ _ _ _ _ _ x => x
theorem aN (kind : Int) (chan : Str) (name : Str) (label : Str) (xk : Int) (xn : Str) (xs : Int) (xv : Int) (xt : Str) (af : List Ex) (exprs : List Ex) (names : List Str) (tk : Int) (ts : Int) (tn : Str) (tl : List Str) (ag : List Ty) (labels : List Str) (kids : List Pr) : (Pr.mk kind chan name label xk xn xs xv xt af exprs names tk ts tn tl ag labels kids).kind = kind:=rfl
theorem aT (kind : Int) (chan : Str) (name : Str) (label : Str) (xk : Int) (xn : Str) (xs : Int) (xv : Int) (xt : Str) (af : List Ex) (exprs : List Ex) (names : List Str) (tk : Int) (ts : Int) (tn : Str) (tl : List Str) (ag : List Ty) (labels : List Str) (kids : List Pr) : (Pr.mk kind chan name label xk xn xs xv xt af exprs names tk ts tn tl ag labels kids).chan = chan:=rfl
theorem aI (kind : Int) (chan : Str) (name : Str) (label : Str) (xk : Int) (xn : Str) (xs : Int) (xv : Int) (xt : Str) (af : List Ex) (exprs : List Ex) (names : List Str) (tk : Int) (ts : Int) (tn : Str) (tl : List Str) (ag : List Ty) (labels : List Str) (kids : List Pr) : (Pr.mk kind chan name label xk xn xs xv xt af exprs names tk ts tn tl ag labels kids).name = name:=rfl
theorem aW (kind : Int) (chan : Str) (name : Str) (label : Str) (xk : Int) (xn : Str) (xs : Int) (xv : Int) (xt : Str) (af : List Ex) (exprs : List Ex) (names : List Str) (tk : Int) (ts : Int) (tn : Str) (tl : List Str) (ag : List Ty) (labels : List Str) (kids : List Pr) : (Pr.mk kind chan name label xk xn xs xv xt af exprs names tk ts tn tl ag labels kids).label = label:=rfl
theorem jm (kind : Int) (chan : Str) (name : Str) (label : Str) (xk : Int) (xn : Str) (xs : Int) (xv : Int) (xt : Str) (af : List Ex) (exprs : List Ex) (names : List Str) (tk : Int) (ts : Int) (tn : Str) (tl : List Str) (ag : List Ty) (labels : List Str) (kids : List Pr) : (Pr.mk kind chan name label xk xn xs xv xt af exprs names tk ts tn tl ag labels kids).xk = xk:=rfl
theorem jo (kind : Int) (chan : Str) (name : Str) (label : Str) (xk : Int) (xn : Str) (xs : Int) (xv : Int) (xt : Str) (af : List Ex) (exprs : List Ex) (names : List Str) (tk : Int) (ts : Int) (tn : Str) (tl : List Str) (ag : List Ty) (labels : List Str) (kids : List Pr) : (Pr.mk kind chan name label xk xn xs xv xt af exprs names tk ts tn tl ag labels kids).xn = xn:=rfl
theorem jq (kind : Int) (chan : Str) (name : Str) (label : Str) (xk : Int) (xn : Str) (xs : Int) (xv : Int) (xt : Str) (af : List Ex) (exprs : List Ex) (names : List Str) (tk : Int) (ts : Int) (tn : Str) (tl : List Str) (ag : List Ty) (labels : List Str) (kids : List Pr) : (Pr.mk kind chan name label xk xn xs xv xt af exprs names tk ts tn tl ag labels kids).xs = xs:=rfl
theorem jv (kind : Int) (chan : Str) (name : Str) (label : Str) (xk : Int) (xn : Str) (xs : Int) (xv : Int) (xt : Str) (af : List Ex) (exprs : List Ex) (names : List Str) (tk : Int) (ts : Int) (tn : Str) (tl : List Str) (ag : List Ty) (labels : List Str) (kids : List Pr) : (Pr.mk kind chan name label xk xn xs xv xt af exprs names tk ts tn tl ag labels kids).xv = xv:=rfl
theorem jr (kind : Int) (chan : Str) (name : Str) (label : Str) (xk : Int) (xn : Str) (xs : Int) (xv : Int) (xt : Str) (af : List Ex) (exprs : List Ex) (names : List Str) (tk : Int) (ts : Int) (tn : Str) (tl : List Str) (ag : List Ty) (labels : List Str) (kids : List Pr) : (Pr.mk kind chan name label xk xn xs xv xt af exprs names tk ts tn tl ag labels kids).xt = xt:=rfl
theorem aY (kind : Int) (chan : Str) (name : Str) (label : Str) (xk : Int) (xn : Str) (xs : Int) (xv : Int) (xt : Str) (af : List Ex) (exprs : List Ex) (names : List Str) (tk : Int) (ts : Int) (tn : Str) (tl : List Str) (ag : List Ty) (labels : List Str) (kids : List Pr) : (Pr.mk kind chan name label xk xn xs xv xt af exprs names tk ts tn tl ag labels kids).af = af:=rfl
theorem aV (kind : Int) (chan : Str) (name : Str) (label : Str) (xk : Int) (xn : Str) (xs : Int) (xv : Int) (xt : Str) (af : List Ex) (exprs : List Ex) (names : List Str) (tk : Int) (ts : Int) (tn : Str) (tl : List Str) (ag : List Ty) (labels : List Str) (kids : List Pr) : (Pr.mk kind chan name label xk xn xs xv xt af exprs names tk ts tn tl ag labels kids).exprs = exprs:=rfl
theorem aU (kind : Int) (chan : Str) (name : Str) (label : Str) (xk : Int) (xn : Str) (xs : Int) (xv : Int) (xt : Str) (af : List Ex) (exprs : List Ex) (names : List Str) (tk : Int) (ts : Int) (tn : Str) (tl : List Str) (ag : List Ty) (labels : List Str) (kids : List Pr) : (Pr.mk kind chan name label xk xn xs xv xt af exprs names tk ts tn tl ag labels kids).names = names:=rfl
theorem jg (kind : Int) (chan : Str) (name : Str) (label : Str) (xk : Int) (xn : Str) (xs : Int) (xv : Int) (xt : Str) (af : List Ex) (exprs : List Ex) (names : List Str) (tk : Int) (ts : Int) (tn : Str) (tl : List Str) (ag : List Ty) (labels : List Str) (kids : List Pr) : (Pr.mk kind chan name label xk xn xs xv xt af exprs names tk ts tn tl ag labels kids).tk = tk:=rfl
theorem ji (kind : Int) (chan : Str) (name : Str) (label : Str) (xk : Int) (xn : Str) (xs : Int) (xv : Int) (xt : Str) (af : List Ex) (exprs : List Ex) (names : List Str) (tk : Int) (ts : Int) (tn : Str) (tl : List Str) (ag : List Ty) (labels : List Str) (kids : List Pr) : (Pr.mk kind chan name label xk xn xs xv xt af exprs names tk ts tn tl ag labels kids).ts = ts:=rfl
theorem jh (kind : Int) (chan : Str) (name : Str) (label : Str) (xk : Int) (xn : Str) (xs : Int) (xv : Int) (xt : Str) (af : List Ex) (exprs : List Ex) (names : List Str) (tk : Int) (ts : Int) (tn : Str) (tl : List Str) (ag : List Ty) (labels : List Str) (kids : List Pr) : (Pr.mk kind chan name label xk xn xs xv xt af exprs names tk ts tn tl ag labels kids).tn = tn:=rfl
theorem jA (kind : Int) (chan : Str) (name : Str) (label : Str) (xk : Int) (xn : Str) (xs : Int) (xv : Int) (xt : Str) (af : List Ex) (exprs : List Ex) (names : List Str) (tk : Int) (ts : Int) (tn : Str) (tl : List Str) (ag : List Ty) (labels : List Str) (kids : List Pr) : (Pr.mk kind chan name label xk xn xs xv xt af exprs names tk ts tn tl ag labels kids).tl = tl:=rfl
theorem aX (kind : Int) (chan : Str) (name : Str) (label : Str) (xk : Int) (xn : Str) (xs : Int) (xv : Int) (xt : Str) (af : List Ex) (exprs : List Ex) (names : List Str) (tk : Int) (ts : Int) (tn : Str) (tl : List Str) (ag : List Ty) (labels : List Str) (kids : List Pr) : (Pr.mk kind chan name label xk xn xs xv xt af exprs names tk ts tn tl ag labels kids).ag = ag:=rfl
theorem aH (kind : Int) (chan : Str) (name : Str) (label : Str) (xk : Int) (xn : Str) (xs : Int) (xv : Int) (xt : Str) (af : List Ex) (exprs : List Ex) (names : List Str) (tk : Int) (ts : Int) (tn : Str) (tl : List Str) (ag : List Ty) (labels : List Str) (kids : List Pr) : (Pr.mk kind chan name label xk xn xs xv xt af exprs names tk ts tn tl ag labels kids).labels = labels:=rfl
theorem aK (kind : Int) (chan : Str) (name : Str) (label : Str) (xk : Int) (xn : Str) (xs : Int) (xv : Int) (xt : Str) (af : List Ex) (exprs : List Ex) (names : List Str) (tk : Int) (ts : Int) (tn : Str) (tl : List Str) (ag : List Ty) (labels : List Str) (kids : List Pr) : (Pr.mk kind chan name label xk xn xs xv xt af exprs names tk ts tn tl ag labels kids).kids = kids:=rfl
end Pr
def xY : Pr:=.mk 0 [] [] [] 0 [] 0 0 [] [] [] [] 0 0 [] [] [] [] []
inductive bF (N : Nat) : Pr → Prop where
 | mk (kind : Int) (chan : Str) (name : Str) (label : Str) (xk : Int) (xn : Str) (xs : Int) (xv : Int) (xt : Str) (af : List Ex) (exprs : List Ex) (names : List Str) (tk : Int) (ts : Int) (tn : Str) (tl : List Str) (ag : List Ty) (labels : List Str) (kids : List Pr) (h_kind : (Lit.int .i64 kind).wf = true) (h_chan : chan.length ≤ N) (h_name : name.length ≤ N) (h_label : label.length ≤ N) (h_xk : (Lit.int .i64 xk).wf = true) (h_xn : xn.length ≤ N) (h_xs : (Lit.int .i64 xs).wf = true) (h_xv : (Lit.int .i64 xv).wf = true) (h_xt : xt.length ≤ N) (h_xkids : af.length ≤ N) (g_xkids : ∀ t ∈ af,bI N t) (h_exprs : exprs.length ≤ N) (g_exprs : ∀ t ∈ exprs,bI N t) (h_names : names.length ≤ N) (g_names : ∀ l ∈ names,l.length ≤ N) (h_tk : (Lit.int .i64 tk).wf = true) (h_ts : (Lit.int .i64 ts).wf = true) (h_tn : tn.length ≤ N) (h_tl : tl.length ≤ N) (g_tl : ∀ l ∈ tl,l.length ≤ N) (h_tkids : ag.length ≤ N) (g_tkids : ∀ t ∈ ag,Fit t) (h_labels : labels.length ≤ N) (g_labels : ∀ l ∈ labels,l.length ≤ N) (h_kids : kids.length ≤ N) (g_kids : ∀ t ∈ kids,bF N t) : bF N (.mk kind chan name label xk xn xs xv xt af exprs names tk ts tn tl ag labels kids)
theorem bF.parts {N : Nat} {t : Pr} (h : bF N t) : (Lit.int .i64 t.kind).wf = true ∧ t.chan.length ≤ N ∧ t.name.length ≤ N ∧ t.label.length ≤ N ∧ (Lit.int .i64 t.xk).wf = true ∧ t.xn.length ≤ N ∧ (Lit.int .i64 t.xs).wf = true ∧ (Lit.int .i64 t.xv).wf = true ∧ t.xt.length ≤ N ∧ t.af.length ≤ N ∧ (∀ k ∈ t.af,bI N k) ∧ t.exprs.length ≤ N ∧ (∀ k ∈ t.exprs,bI N k) ∧ t.names.length ≤ N ∧ (∀ l ∈ t.names,l.length ≤ N) ∧ (Lit.int .i64 t.tk).wf = true ∧ (Lit.int .i64 t.ts).wf = true ∧ t.tn.length ≤ N ∧ t.tl.length ≤ N ∧ (∀ l ∈ t.tl,l.length ≤ N) ∧ t.ag.length ≤ N ∧ (∀ k ∈ t.ag,Fit k) ∧ t.labels.length ≤ N ∧ (∀ l ∈ t.labels,l.length ≤ N) ∧ t.kids.length ≤ N ∧ (∀ k ∈ t.kids,bF N k):=by
 cases h with
 | mk kind chan name label xk xn xs xv xt af exprs names tk ts tn tl ag labels kids h_kind h_chan h_name h_label h_xk h_xn h_xs h_xv h_xt h_xkids g_xkids h_exprs g_exprs h_names g_names h_tk h_ts h_tn h_tl g_tl h_tkids g_tkids h_labels g_labels h_kids g_kids => exact ⟨h_kind,h_chan,h_name,h_label,h_xk,h_xn,h_xs,h_xv,h_xt,h_xkids,g_xkids,h_exprs,g_exprs,h_names,g_names,h_tk,h_ts,h_tn,h_tl,g_tl,h_tkids,g_tkids,h_labels,g_labels,h_kids,g_kids⟩
theorem bF.mono {N M : Nat} (hNM : N ≤ M) : ∀ {t : Pr},bF N t → bF M t:=by
 intro t h
 induction h with
 | mk kind chan name label xk xn xs xv xt af exprs names tk ts tn tl ag labels kids h_kind h_chan h_name h_label h_xk h_xn h_xs h_xv h_xt h_xkids g_xkids h_exprs g_exprs h_names g_names h_tk h_ts h_tn h_tl g_tl h_tkids g_tkids h_labels g_labels h_kids g_kids ih => exact .mk kind chan name label xk xn xs xv xt af exprs names tk ts tn tl ag labels kids h_kind (Nat.le_trans h_chan hNM) (Nat.le_trans h_name hNM) (Nat.le_trans h_label hNM) h_xk (Nat.le_trans h_xn hNM) h_xs h_xv (Nat.le_trans h_xt hNM) (Nat.le_trans h_xkids hNM) (fun l hl => (g_xkids l hl).mono hNM) (Nat.le_trans h_exprs hNM) (fun l hl => (g_exprs l hl).mono hNM) (Nat.le_trans h_names hNM) (fun l hl => Nat.le_trans (g_names l hl) hNM) h_tk h_ts (Nat.le_trans h_tn hNM) (Nat.le_trans h_tl hNM) (fun l hl => Nat.le_trans (g_tl l hl) hNM) (Nat.le_trans h_tkids hNM) g_tkids (Nat.le_trans h_labels hNM) (fun l hl => Nat.le_trans (g_labels l hl) hNM) (Nat.le_trans h_kids hNM) ih
mutual
def yQ (D : aj) (w : World) (b off : Nat) : Pr → Prop
 | .mk kind chan name label xk xn xs xv xt af exprs names tk ts tn tl ag labels kids => ∃ aS aO aP jP aQ aB ak,w.cell? ⟨b,off,none⟩ = some (.int .i64 kind) ∧ w.cell? ⟨b,off + 1,none⟩ = some (.string ⟨chan.toArray⟩) ∧ w.cell? ⟨b,off + 2,none⟩ = some (.string ⟨name.toArray⟩) ∧ w.cell? ⟨b,off + 3,none⟩ = some (.string ⟨label.toArray⟩) ∧ w.cell? ⟨b,off + 4,none⟩ = some (.int .i64 xk) ∧ w.cell? ⟨b,off + 5,none⟩ = some (.string ⟨xn.toArray⟩) ∧ w.cell? ⟨b,off + 6,none⟩ = some (.int .i64 xs) ∧ w.cell? ⟨b,off + 7,none⟩ = some (.int .i64 xv) ∧ w.cell? ⟨b,off + 8,none⟩ = some (.string ⟨xt.toArray⟩) ∧ w.cell? ⟨b,off + 9,none⟩ = some (aS) ∧ w.cell? ⟨b,off + 10,none⟩ = some (aO) ∧ w.cell? ⟨b,off + 11,none⟩ = some (aP) ∧ w.cell? ⟨b,off + 12,none⟩ = some (.int .i64 tk) ∧ w.cell? ⟨b,off + 13,none⟩ = some (.int .i64 ts) ∧ w.cell? ⟨b,off + 14,none⟩ = some (.string ⟨tn.toArray⟩) ∧ w.cell? ⟨b,off + 15,none⟩ = some (jP) ∧ w.cell? ⟨b,off + 16,none⟩ = some (aQ) ∧ w.cell? ⟨b,off + 17,none⟩ = some (aB) ∧ w.cell? ⟨b,off + 18,none⟩ = some (ak) ∧ uz D w aS af ∧ uz D w aO exprs ∧ bD D w aP names ∧ bD D w jP tl ∧ qZ D w aQ ag ∧ bD D w aB labels ∧ ∃ A cap,ak = .slice A kids.length cap ∧ kids.length ≤ cap ∧ (A = none → cap = 0) ∧ (0 < kids.length → ∃ b' off',A = some ⟨b',off',none⟩ ∧ D b' ∧ qR D w b' off' kids)
def qR (D : aj) (w : World) (b off : Nat) : List Pr → Prop
 | [] => True
 | t :: r => yQ D w b off t ∧ qR D w b (off + 19) r
end
def yC (D : aj) (w : World) (v : Value) (ks : List Pr) : Prop:=∃ A cap,v = .slice A ks.length cap ∧ ks.length ≤ cap ∧ (A = none → cap = 0) ∧ (0 < ks.length → ∃ b off,A = some ⟨b,off,none⟩ ∧ D b ∧ qR D w b off ks)
def zn (D : aj) (w : World) (v : Value) (t : Pr) : Prop:=∃ aS aO aP jP aQ aB ak,v = .agg #[.int .i64 t.kind,.string ⟨t.chan.toArray⟩,.string ⟨t.name.toArray⟩,.string ⟨t.label.toArray⟩,.int .i64 t.xk,.string ⟨t.xn.toArray⟩,.int .i64 t.xs,.int .i64 t.xv,.string ⟨t.xt.toArray⟩,aS,aO,aP,.int .i64 t.tk,.int .i64 t.ts,.string ⟨t.tn.toArray⟩,jP,aQ,aB,ak] ∧ uz D w aS t.af ∧ uz D w aO t.exprs ∧ bD D w aP t.names ∧ bD D w jP t.tl ∧ qZ D w aQ t.ag ∧ bD D w aB t.labels ∧ yC D w ak t.kids
theorem vC (D : aj) (w : World) (b off : Nat) (t : Pr) : yQ D w b off t ↔ ∃ aS aO aP jP aQ aB ak,w.cell? ⟨b,off,none⟩ = some (.int .i64 t.kind) ∧ w.cell? ⟨b,off + 1,none⟩ = some (.string ⟨t.chan.toArray⟩) ∧ w.cell? ⟨b,off + 2,none⟩ = some (.string ⟨t.name.toArray⟩) ∧ w.cell? ⟨b,off + 3,none⟩ = some (.string ⟨t.label.toArray⟩) ∧ w.cell? ⟨b,off + 4,none⟩ = some (.int .i64 t.xk) ∧ w.cell? ⟨b,off + 5,none⟩ = some (.string ⟨t.xn.toArray⟩) ∧ w.cell? ⟨b,off + 6,none⟩ = some (.int .i64 t.xs) ∧ w.cell? ⟨b,off + 7,none⟩ = some (.int .i64 t.xv) ∧ w.cell? ⟨b,off + 8,none⟩ = some (.string ⟨t.xt.toArray⟩) ∧ w.cell? ⟨b,off + 9,none⟩ = some (aS) ∧ w.cell? ⟨b,off + 10,none⟩ = some (aO) ∧ w.cell? ⟨b,off + 11,none⟩ = some (aP) ∧ w.cell? ⟨b,off + 12,none⟩ = some (.int .i64 t.tk) ∧ w.cell? ⟨b,off + 13,none⟩ = some (.int .i64 t.ts) ∧ w.cell? ⟨b,off + 14,none⟩ = some (.string ⟨t.tn.toArray⟩) ∧ w.cell? ⟨b,off + 15,none⟩ = some (jP) ∧ w.cell? ⟨b,off + 16,none⟩ = some (aQ) ∧ w.cell? ⟨b,off + 17,none⟩ = some (aB) ∧ w.cell? ⟨b,off + 18,none⟩ = some (ak) ∧ uz D w aS t.af ∧ uz D w aO t.exprs ∧ bD D w aP t.names ∧ bD D w jP t.tl ∧ qZ D w aQ t.ag ∧ bD D w aB t.labels ∧ yC D w ak t.kids:=by
 cases t with
 | mk kind chan name label xk xn xs xv xt af exprs names tk ts tn tl ag labels kids => simp only [yQ,yC,Pr.kind,Pr.chan,Pr.name,Pr.label,Pr.xk,Pr.xn,Pr.xs,Pr.xv,Pr.xt,Pr.af,Pr.exprs,Pr.names,Pr.tk,Pr.ts,Pr.tn,Pr.tl,Pr.ag,Pr.labels,Pr.kids]
theorem zo {D : aj} {w : World} {b : Nat} : ∀ {ks : List Pr} {off i : Nat} {t : Pr},qR D w b off ks → ks[i]? = some t → yQ D w b (off + i * 19) t:=by
 intro ks
 induction ks with
 | nil => intro off i t _ h; simp at h
 | cons x r ih =>
  intro off i t h hi
  simp only [qR] at h
  match i,hi with
  | 0,hi => simp at hi; subst hi; simpa using h.1
  | i + 1,hi =>
   have:=ih h.2 (by simpa using hi)
   rw [show off + (i + 1) * 19 = off + 19 + i * 19 by omega]
   exact this
theorem Fa {D : aj} {w : World} {b : Nat} : ∀ {ks : List Pr} {off : Nat},(∀ (i : Nat) t,ks[i]? = some t → yQ D w b (off + i * 19) t) → qR D w b off ks
 | [],_,_ => by simp [qR]
 | t :: r,off,h => by
  simp only [qR]
  refine ⟨by simpa using h 0 t rfl,Fa fun i u hi => ?_⟩
  have:=h (i + 1) u (by simpa using hi)
  rw [show off + 19 + i * 19 = off + (i + 1) * 19 by omega]
  exact this
mutual
theorem PrAt_keep {D D' : aj} {w w' : World} (hs : Same D w w') (hD : ∀ b,D b → b < w.heap.size → D' b) : ∀ {b off : Nat} (t : Pr),D b → yQ D w b off t → yQ D' w' b off t
 | b,off,.mk kind chan name label xk xn xs xv xt af exprs names tk ts tn tl ag labels kids => by
  simp only [yQ]
  rintro hd ⟨aS,aO,aP,jP,aQ,aB,ak,h0,h1,h2,h3,h4,h5,h6,h7,h8,h9,h10,h11,h12,h13,h14,h15,h16,h17,h18,p_xkids,p_exprs,p_names,p_tl,p_tkids,p_labels,A,cap,z8,z9,hz,z10⟩
  refine ⟨aS,aO,aP,jP,aQ,aB,ak,hs.cell hd h0,hs.cell hd h1,hs.cell hd h2,hs.cell hd h3,hs.cell hd h4,hs.cell hd h5,hs.cell hd h6,hs.cell hd h7,hs.cell hd h8,hs.cell hd h9,hs.cell hd h10,hs.cell hd h11,hs.cell hd h12,hs.cell hd h13,hs.cell hd h14,hs.cell hd h15,hs.cell hd h16,hs.cell hd h17,hs.cell hd h18,p_xkids.keep hs hD,p_exprs.keep hs hD,p_names.keep hs hD,p_tl.keep hs hD,p_tkids.keep hs hD,p_labels.keep hs hD,A,cap,z8,z9,hz,fun h0 => ?_⟩
  obtain ⟨b',off',e,hd',hr⟩:=z10 h0
  refine ⟨b',off',e,hD b' hd' ?_,yR hs hD kids hd' hr⟩
  cases kids with
  | nil => simp at h0
  | cons t r =>
   obtain ⟨hr1,-⟩:=hr
   obtain ⟨_,_,_,_,_,_,_,hc,-⟩:=(vC _ _ _ _ _).1 hr1
   exact cell_lt hc
theorem yR {D D' : aj} {w w' : World} (hs : Same D w w') (hD : ∀ b,D b → b < w.heap.size → D' b) : ∀ {b off : Nat} (ks : List Pr),D b → qR D w b off ks → qR D' w' b off ks
 | _,_,[] => by simp [qR]
 | b,off,t :: r => by
  simp only [qR]
  rintro hd ⟨h1,h2⟩
  exact ⟨PrAt_keep hs hD t hd h1,yR hs hD r hd h2⟩
end
theorem yC.keep {D D' : aj} {w w' : World} {v : Value} {ks : List Pr} (h : yC D w v ks) (hs : Same D w w') (hD : ∀ b,D b → b < w.heap.size → D' b) : yC D' w' v ks:=by
 obtain ⟨A,cap,h1,h2,hz,h3⟩:=h
 refine ⟨A,cap,h1,h2,hz,fun h0 => ?_⟩
 obtain ⟨b,off,e,hd,hr⟩:=h3 h0
 refine ⟨b,off,e,hD b hd ?_,yR hs hD ks hd hr⟩
 cases ks with
 | nil => simp at h0
 | cons t r =>
  obtain ⟨hr1,-⟩:=hr
  obtain ⟨_,_,_,_,_,_,_,hc,-⟩:=(vC _ _ _ _ _).1 hr1
  exact cell_lt hc
theorem zn.keep {D D' : aj} {w w' : World} {v : Value} {t : Pr} (h : zn D w v t) (hs : Same D w w') (hD : ∀ b,D b → b < w.heap.size → D' b) : zn D' w' v t:=by
 obtain ⟨aS,aO,aP,jP,aQ,aB,ak,h1,oZ,oU,oV,xQ,oW,nI,ja⟩:=h
 exact ⟨aS,aO,aP,jP,aQ,aB,ak,h1,oZ.keep hs hD,oU.keep hs hD,oV.keep hs hD,xQ.keep hs hD,oW.keep hs hD,nI.keep hs hD,ja.keep hs hD⟩
theorem zn.below {D : aj} {w w' : World} {v : Value} {t : Pr} (h : zn D w v t) (hb : Below w.heap.size w w') : zn D w' v t:=h.keep (Same.below hb) fun _ h _ => h
theorem yC.below {D : aj} {w w' : World} {v : Value} {t : List Pr} (h : yC D w v t) (hb : Below w.heap.size w w') : yC D w' v t:=h.keep (Same.below hb) fun _ h _ => h
theorem zn.all {D : aj} {w : World} {v : Value} {t : Pr} (h : zn D w v t) : zn All w v t:=h.keep (Same.refl _ _) fun _ _ _ => trivial
theorem yC.all {D : aj} {w : World} {v : Value} {t : List Pr} (h : yC D w v t) : yC All w v t:=h.keep (Same.refl _ _) fun _ _ _ => trivial
theorem zn.here {D : aj} {w : World} {v : Value} {t : Pr} (h : zn D w v t) : zn (· < w.heap.size) w v t:=h.keep (Same.refl _ _) fun _ _ h => h
theorem yC.one {D : aj} {w : World} {v : Value} {l : List Pr} (h : yC D w v l) : v.oneCell' = true:=by obtain ⟨A,cap,rfl,_⟩:=h; rfl
theorem zn.one' {D : aj} {w : World} {v : Value} {t : Pr} (h : zn D w v t) : ∃ Es n_xkids EE En n_exprs Ez Eo n_names EC NC n_tl Oe Ep n_tkids ED BK n_labels Cf vw n_kids vG,v = .agg #[.int .i64 t.kind,.string ⟨t.chan.toArray⟩,.string ⟨t.name.toArray⟩,.string ⟨t.label.toArray⟩,.int .i64 t.xk,.string ⟨t.xn.toArray⟩,.int .i64 t.xs,.int .i64 t.xv,.string ⟨t.xt.toArray⟩,.slice Es n_xkids EE,.slice En n_exprs Ez,.slice Eo n_names EC,.int .i64 t.tk,.int .i64 t.ts,.string ⟨t.tn.toArray⟩,.slice NC n_tl Oe,.slice Ep n_tkids ED,.slice BK n_labels Cf,.slice vw n_kids vG] ∧ uz D w (.slice Es n_xkids EE) t.af ∧ uz D w (.slice En n_exprs Ez) t.exprs ∧ bD D w (.slice Eo n_names EC) t.names ∧ bD D w (.slice NC n_tl Oe) t.tl ∧ qZ D w (.slice Ep n_tkids ED) t.ag ∧ bD D w (.slice BK n_labels Cf) t.labels ∧ yC D w (.slice vw n_kids vG) t.kids:=by
 obtain ⟨aS,aO,aP,jP,aQ,aB,ak,rfl,oZ,oU,oV,xQ,oW,nI,ja⟩:=h
 have q_xkids':=oZ
 have q_exprs':=oU
 have q_names':=oV
 have q_tl':=xQ
 have q_tkids':=oW
 have q_labels':=nI
 have zQ:=ja
 obtain ⟨Es,EE,rfl,-,-⟩:=oZ
 obtain ⟨En,Ez,rfl,-,-⟩:=oU
 obtain ⟨Eo,EC,rfl,-,-⟩:=oV
 obtain ⟨NC,Oe,rfl,-,-⟩:=xQ
 obtain ⟨Ep,ED,rfl,-,-⟩:=oW
 obtain ⟨BK,Cf,rfl,-,-⟩:=nI
 obtain ⟨vw,vG,rfl,-,-⟩:=ja
 exact ⟨_,_,_,_,_,_,_,_,_,_,_,_,_,_,_,_,_,_,_,_,_,rfl,q_xkids',q_exprs',q_names',q_tl',q_tkids',q_labels',zQ⟩
theorem JH {D : aj} {w : World} {t : Pr} {aS aO aP jP aQ aB ak : Value} (oZ : uz D w aS t.af) (oU : uz D w aO t.exprs) (oV : bD D w aP t.names) (xQ : bD D w jP t.tl) (oW : qZ D w aQ t.ag) (nI : bD D w aB t.labels) (ja : yC D w ak t.kids) : zn D w (.agg #[.int .i64 t.kind,.string ⟨t.chan.toArray⟩,.string ⟨t.name.toArray⟩,.string ⟨t.label.toArray⟩,.int .i64 t.xk,.string ⟨t.xn.toArray⟩,.int .i64 t.xs,.int .i64 t.xv,.string ⟨t.xt.toArray⟩,aS,aO,aP,.int .i64 t.tk,.int .i64 t.ts,.string ⟨t.tn.toArray⟩,jP,aQ,aB,ak]) t:=⟨_,_,_,_,_,_,_,rfl,oZ,oU,oV,xQ,oW,nI,ja⟩
inductive nX (D : aj) (w : World) : List Value → List Pr → Prop where
 | nil : nX D w [] []
 | cons (t : Pr) (aS aO aP jP aQ aB ak : Value) (xs : List Value) (ts : List Pr) (oZ : uz D w aS t.af) (oU : uz D w aO t.exprs) (oV : bD D w aP t.names) (xQ : bD D w jP t.tl) (oW : qZ D w aQ t.ag) (nI : bD D w aB t.labels) (ja : yC D w ak t.kids) (h : nX D w xs ts) :
   nX D w (.int .i64 t.kind :: .string ⟨t.chan.toArray⟩ :: .string ⟨t.name.toArray⟩ :: .string ⟨t.label.toArray⟩ :: .int .i64 t.xk :: .string ⟨t.xn.toArray⟩ :: .int .i64 t.xs :: .int .i64 t.xv :: .string ⟨t.xt.toArray⟩ :: aS :: aO :: aP :: .int .i64 t.tk :: .int .i64 t.ts :: .string ⟨t.tn.toArray⟩ :: jP :: aQ :: aB :: ak :: xs) (t :: ts)
theorem nX.length {D : aj} {w : World} {xs : List Value} {ts : List Pr} (h : nX D w xs ts) : xs.length = ts.length * 19:=by
 induction h with
 | nil => rfl
 | cons => simp only [List.length_cons]; omega
theorem nX.one {D : aj} {w : World} {xs : List Value} {ts : List Pr} (h : nX D w xs ts) : ∀ u ∈ xs,u.oneCell' = true:=by
 induction h with
 | nil => simp
 | cons t aS aO aP jP aQ aB ak xs ts oZ oU oV xQ oW nI ja _ ih =>
  intro u hu
  simp only [List.mem_cons] at hu
  rcases hu with rfl | rfl | rfl | rfl | rfl | rfl | rfl | rfl | rfl | rfl | rfl | rfl | rfl | rfl | rfl | rfl | rfl | rfl | rfl | hu
  ·rfl
  ·rfl
  ·rfl
  ·rfl
  ·rfl
  ·rfl
  ·rfl
  ·rfl
  ·rfl
  ·exact oZ.one
  ·exact oU.one
  ·exact oV.one
  ·rfl
  ·rfl
  ·rfl
  ·exact xQ.one
  ·exact oW.one
  ·exact nI.one
  ·exact ja.one
  ·exact ih u hu
theorem nX.append {D : aj} {w : World} {xs ys : List Value} {ts us : List Pr} (h : nX D w xs ts) (h' : nX D w ys us) : nX D w (xs ++ ys) (ts ++ us):=by
 induction h with
 | nil => exact h'
 | cons t aS aO aP jP aQ aB ak xs ts oZ oU oV xQ oW nI ja _ ih => exact .cons t aS aO aP jP aQ aB ak _ _ oZ oU oV xQ oW nI ja ih
theorem nX.keep {D D' : aj} {w w' : World} {xs : List Value} {ts : List Pr} (h : nX D w xs ts) (hs : Same D w w') (hD : ∀ b,D b → b < w.heap.size → D' b) : nX D' w' xs ts:=by
 induction h with
 | nil => exact .nil
 | cons t aS aO aP jP aQ aB ak xs ts oZ oU oV xQ oW nI ja _ ih => exact .cons t aS aO aP jP aQ aB ak _ _ (oZ.keep hs hD) (oU.keep hs hD) (oV.keep hs hD) (xQ.keep hs hD) (oW.keep hs hD) (nI.keep hs hD) (ja.keep hs hD) ih
theorem nX.row {D : aj} {w : World} {b : Nat} {xs : List Value} {ts : List Pr} (h : nX D w xs ts) : ∀ (off : Nat),(∀ j u,xs[j]? = some u → w.cell? ⟨b,off + j,none⟩ = some u) → qR D w b off ts:=by
 induction h with
 | nil => intro off _; simp [qR]
 | cons t aS aO aP jP aQ aB ak xs ts oZ oU oV xQ oW nI ja _ ih =>
  intro off hc
  refine ⟨(vC _ _ _ _ _).2 ⟨aS,aO,aP,jP,aQ,aB,ak,hc 0 _ rfl,hc 1 _ rfl,hc 2 _ rfl,hc 3 _ rfl,hc 4 _ rfl,hc 5 _ rfl,hc 6 _ rfl,hc 7 _ rfl,hc 8 _ rfl,hc 9 _ rfl,hc 10 _ rfl,hc 11 _ rfl,hc 12 _ rfl,hc 13 _ rfl,hc 14 _ rfl,hc 15 _ rfl,hc 16 _ rfl,hc 17 _ rfl,hc 18 _ rfl,oZ,oU,oV,xQ,oW,nI,ja⟩,ih (off + 19) fun j u hj => ?_⟩
  have:=hc (j + 19) u (by simpa using hj)
  rw [show off + 19 + j = off + (j + 19) by omega]
  exact this
theorem own_prs {D : aj} {w : World} {base : Nat} {E : TypeId} {v : Value} {xs : List Value} {ts : List Pr} (h : w.ownsRow base E 19 v ts.length xs) (hc : nX D w xs ts) (hD : ∀ b,base ≤ b → D b) : yC D w v ts:=by
 have hcells:=fun g => h.cells (g:=g)
 rcases h.2 with ⟨rfl,h0⟩ | ⟨g,cap,cur,rfl,hg,_,hn,_⟩
 ·refine ⟨none,0,by rw [h0],by omega,fun _ => rfl,fun h1 => by omega⟩
 ·refine ⟨_,cap,rfl,hn,(fun e => by cases e),fun _ => ⟨g,0,rfl,hD g hg,hc.row 0 fun j u hj => ?_⟩⟩
  have:=hcells g rfl j u hj
  rw [Go.WideShapes.add_plain] at this
  exact this
structure nK (w : World) (b : Nat) (t : Pr) (aS aO aP jP aQ aB ak : Value) : Prop where
 c0 : w.cell? ⟨b,0,none⟩ = some (.int .i64 t.kind)
 c1 : w.cell? ⟨b,1,none⟩ = some (.string ⟨t.chan.toArray⟩)
 c2 : w.cell? ⟨b,2,none⟩ = some (.string ⟨t.name.toArray⟩)
 c3 : w.cell? ⟨b,3,none⟩ = some (.string ⟨t.label.toArray⟩)
 c4 : w.cell? ⟨b,4,none⟩ = some (.int .i64 t.xk)
 c5 : w.cell? ⟨b,5,none⟩ = some (.string ⟨t.xn.toArray⟩)
 c6 : w.cell? ⟨b,6,none⟩ = some (.int .i64 t.xs)
 c7 : w.cell? ⟨b,7,none⟩ = some (.int .i64 t.xv)
 c8 : w.cell? ⟨b,8,none⟩ = some (.string ⟨t.xt.toArray⟩)
 c9 : w.cell? ⟨b,9,none⟩ = some (aS)
 c10 : w.cell? ⟨b,10,none⟩ = some (aO)
 c11 : w.cell? ⟨b,11,none⟩ = some (aP)
 c12 : w.cell? ⟨b,12,none⟩ = some (.int .i64 t.tk)
 c13 : w.cell? ⟨b,13,none⟩ = some (.int .i64 t.ts)
 c14 : w.cell? ⟨b,14,none⟩ = some (.string ⟨t.tn.toArray⟩)
 c15 : w.cell? ⟨b,15,none⟩ = some (jP)
 c16 : w.cell? ⟨b,16,none⟩ = some (aQ)
 c17 : w.cell? ⟨b,17,none⟩ = some (aB)
 c18 : w.cell? ⟨b,18,none⟩ = some (ak)
 fr : ∀ j,w.frozen? ⟨b,j,none⟩ = false
 lt : b < w.heap.size
theorem nK.keep {w w' : World} {b B : Nat} {t : Pr} {aS aO aP jP aQ aB ak : Value} (h : nK w b t aS aO aP jP aQ aB ak) (hb : Below B w w') (hB : b < B) : nK w' b t aS aO aP jP aQ aB ak :=
 ⟨(hb.cell (p:=⟨b,0,none⟩) hB).trans h.c0,(hb.cell (p:=⟨b,1,none⟩) hB).trans h.c1,(hb.cell (p:=⟨b,2,none⟩) hB).trans h.c2,(hb.cell (p:=⟨b,3,none⟩) hB).trans h.c3,(hb.cell (p:=⟨b,4,none⟩) hB).trans h.c4,(hb.cell (p:=⟨b,5,none⟩) hB).trans h.c5,(hb.cell (p:=⟨b,6,none⟩) hB).trans h.c6,(hb.cell (p:=⟨b,7,none⟩) hB).trans h.c7,(hb.cell (p:=⟨b,8,none⟩) hB).trans h.c8,(hb.cell (p:=⟨b,9,none⟩) hB).trans h.c9,(hb.cell (p:=⟨b,10,none⟩) hB).trans h.c10,(hb.cell (p:=⟨b,11,none⟩) hB).trans h.c11,(hb.cell (p:=⟨b,12,none⟩) hB).trans h.c12,(hb.cell (p:=⟨b,13,none⟩) hB).trans h.c13,(hb.cell (p:=⟨b,14,none⟩) hB).trans h.c14,(hb.cell (p:=⟨b,15,none⟩) hB).trans h.c15,(hb.cell (p:=⟨b,16,none⟩) hB).trans h.c16,(hb.cell (p:=⟨b,17,none⟩) hB).trans h.c17,(hb.cell (p:=⟨b,18,none⟩) hB).trans h.c18,fun j => (hb.frozen (p:=⟨b,j,none⟩) hB).trans (h.fr j),Nat.lt_of_lt_of_le h.lt hb.size⟩
theorem nK.far {w : World} {b : Nat} {t : Pr} {aS aO aP jP aQ aB ak : Value} (h : nK w b t aS aO aP jP aQ aB ak) {p : Addr} (hp : p.block ≠ b) (u : Value) : nK (w.setCell p u) b t aS aO aP jP aQ aB ak :=
 ⟨(World.cell?_setCell_far w p _ u hp).trans h.c0,(World.cell?_setCell_far w p _ u hp).trans h.c1,(World.cell?_setCell_far w p _ u hp).trans h.c2,(World.cell?_setCell_far w p _ u hp).trans h.c3,(World.cell?_setCell_far w p _ u hp).trans h.c4,(World.cell?_setCell_far w p _ u hp).trans h.c5,(World.cell?_setCell_far w p _ u hp).trans h.c6,(World.cell?_setCell_far w p _ u hp).trans h.c7,(World.cell?_setCell_far w p _ u hp).trans h.c8,(World.cell?_setCell_far w p _ u hp).trans h.c9,(World.cell?_setCell_far w p _ u hp).trans h.c10,(World.cell?_setCell_far w p _ u hp).trans h.c11,(World.cell?_setCell_far w p _ u hp).trans h.c12,(World.cell?_setCell_far w p _ u hp).trans h.c13,(World.cell?_setCell_far w p _ u hp).trans h.c14,(World.cell?_setCell_far w p _ u hp).trans h.c15,(World.cell?_setCell_far w p _ u hp).trans h.c16,(World.cell?_setCell_far w p _ u hp).trans h.c17,(World.cell?_setCell_far w p _ u hp).trans h.c18,fun j => by rw [World.frozen?_setCell]; exact h.fr j,by rw [World.size_setCell]; exact h.lt⟩
theorem nK.drewN {w : World} {b : Nat} {t : Pr} {aS aO aP jP aQ aB ak : Value} (h : nK w b t aS aO aP jP aQ aB ak) (n : Nat) : nK (w.drewN n) b t aS aO aP jP aQ aB ak:=⟨h.c0,h.c1,h.c2,h.c3,h.c4,h.c5,h.c6,h.c7,h.c8,h.c9,h.c10,h.c11,h.c12,h.c13,h.c14,h.c15,h.c16,h.c17,h.c18,h.fr,h.lt⟩
theorem nK.grown {w w' : World} {b : Nat} {row : Option Nat} {t : Pr} {aS aO aP jP aQ aB ak : Value} (h : nK w b t aS aO aP jP aQ aB ak) (hg : w.grownBy w' row) (hb : some b ≠ row) : nK w' b t aS aO aP jP aQ aB ak:=by
 have hc : ∀ j,w'.cell? ⟨b,j,none⟩ = w.cell? ⟨b,j,none⟩:=fun j => World.cell?_of_block (a:=⟨b,j,none⟩) (hg.block b h.lt hb)
 have hf : ∀ j,w'.frozen? ⟨b,j,none⟩ = w.frozen? ⟨b,j,none⟩:=fun j => World.frozen?_of_block (a:=⟨b,j,none⟩) (hg.block b h.lt hb)
 exact ⟨(hc 0).trans h.c0,(hc 1).trans h.c1,(hc 2).trans h.c2,(hc 3).trans h.c3,(hc 4).trans h.c4,(hc 5).trans h.c5,(hc 6).trans h.c6,(hc 7).trans h.c7,(hc 8).trans h.c8,(hc 9).trans h.c9,(hc 10).trans h.c10,(hc 11).trans h.c11,(hc 12).trans h.c12,(hc 13).trans h.c13,(hc 14).trans h.c14,(hc 15).trans h.c15,(hc 16).trans h.c16,(hc 17).trans h.c17,(hc 18).trans h.c18,fun j => (hf j).trans (h.fr j),Nat.lt_of_lt_of_le h.lt hg.size⟩
theorem new_prbox (w : World) (E : TypeId) : nK (w.alloc (.cells #[.int .i64 0,.string ⟨#[]⟩,.string ⟨#[]⟩,.string ⟨#[]⟩,.int .i64 0,.string ⟨#[]⟩,.int .i64 0,.int .i64 0,.string ⟨#[]⟩,.slice none 0 0,.slice none 0 0,.slice none 0 0,.int .i64 0,.int .i64 0,.string ⟨#[]⟩,.slice none 0 0,.slice none 0 0,.slice none 0 0,.slice none 0 0] E)) w.heap.size xY (.slice none 0 0) (.slice none 0 0) (.slice none 0 0) (.slice none 0 0) (.slice none 0 0) (.slice none 0 0) (.slice none 0 0) :=
 ⟨by simp [go_sem]; rfl,by simp [go_sem]; rfl,by simp [go_sem]; rfl,by simp [go_sem]; rfl,by simp [go_sem]; rfl,by simp [go_sem]; rfl,by simp [go_sem]; rfl,by simp [go_sem]; rfl,by simp [go_sem]; rfl,by simp [go_sem],by simp [go_sem],by simp [go_sem],by simp [go_sem]; rfl,by simp [go_sem]; rfl,by simp [go_sem]; rfl,by simp [go_sem],by simp [go_sem],by simp [go_sem],by simp [go_sem],fun j => by simp [go_sem],by simp⟩
theorem wG (w : World) (t : Pr) (aS aO aP jP aQ aB ak : Value) (E : TypeId) : nK (w.alloc (.cells #[.int .i64 t.kind,.string ⟨t.chan.toArray⟩,.string ⟨t.name.toArray⟩,.string ⟨t.label.toArray⟩,.int .i64 t.xk,.string ⟨t.xn.toArray⟩,.int .i64 t.xs,.int .i64 t.xv,.string ⟨t.xt.toArray⟩,aS,aO,aP,.int .i64 t.tk,.int .i64 t.ts,.string ⟨t.tn.toArray⟩,jP,aQ,aB,ak] E)) w.heap.size t aS aO aP jP aQ aB ak :=
 ⟨by simp [go_sem],by simp [go_sem],by simp [go_sem],by simp [go_sem],by simp [go_sem],by simp [go_sem],by simp [go_sem],by simp [go_sem],by simp [go_sem],by simp [go_sem],by simp [go_sem],by simp [go_sem],by simp [go_sem],by simp [go_sem],by simp [go_sem],by simp [go_sem],by simp [go_sem],by simp [go_sem],by simp [go_sem],fun j => by simp [go_sem],by simp⟩
theorem Hg : oD Tryz.prog 83 85 19 312:=.mk' (z:=.agg #[.int .i64 0,.string ⟨#[]⟩,.string ⟨#[]⟩,.string ⟨#[]⟩,.int .i64 0,.string ⟨#[]⟩,.int .i64 0,.int .i64 0,.string ⟨#[]⟩,.slice none 0 0,.slice none 0 0,.slice none 0 0,.int .i64 0,.int .i64 0,.string ⟨#[]⟩,.slice none 0 0,.slice none 0 0,.slice none 0 0,.slice none 0 0]) Tryz.underlying83 (by kernel_rfl) rfl (by decide)
theorem qR.cells {D : aj} {w : World} {b : Nat} : ∀ {ts : List Pr} {off : Nat},qR D w b off ts → ∃ xs,nX D w xs ts ∧ ∀ j u,xs[j]? = some u → w.cell? ⟨b,off + j,none⟩ = some u:=by
 intro ts
 induction ts with
 | nil => intro off _; exact ⟨[],.nil,fun j u h => by simp at h⟩
 | cons t r ih =>
  intro off h
  simp only [qR] at h
  obtain ⟨xs,h1,h2⟩:=ih h.2
  obtain ⟨aS,aO,aP,jP,aQ,aB,ak,x0,x1,x2,x3,x4,x5,x6,x7,x8,x9,x10,x11,x12,MR,x14,x15,x16,x17,x18,oZ,oU,oV,xQ,oW,nI,ja⟩:=(vC _ _ _ _ _).1 h.1
  refine ⟨_,.cons t aS aO aP jP aQ aB ak xs r oZ oU oV xQ oW nI ja h1,fun j u hj => ?_⟩
  match j,hj with
  | 0,hj => simp at hj; subst hj; exact x0
  | 1,hj => simp at hj; subst hj; exact x1
  | 2,hj => simp at hj; subst hj; exact x2
  | 3,hj => simp at hj; subst hj; exact x3
  | 4,hj => simp at hj; subst hj; exact x4
  | 5,hj => simp at hj; subst hj; exact x5
  | 6,hj => simp at hj; subst hj; exact x6
  | 7,hj => simp at hj; subst hj; exact x7
  | 8,hj => simp at hj; subst hj; exact x8
  | 9,hj => simp at hj; subst hj; exact x9
  | 10,hj => simp at hj; subst hj; exact x10
  | 11,hj => simp at hj; subst hj; exact x11
  | 12,hj => simp at hj; subst hj; exact x12
  | 13,hj => simp at hj; subst hj; exact MR
  | 14,hj => simp at hj; subst hj; exact x14
  | 15,hj => simp at hj; subst hj; exact x15
  | 16,hj => simp at hj; subst hj; exact x16
  | 17,hj => simp at hj; subst hj; exact x17
  | 18,hj => simp at hj; subst hj; exact x18
  | j + 19,hj =>
   have:=h2 j u (by simpa using hj)
   rw [show off + (j + 19) = off + 19 + j by omega]
   exact this
theorem yC.src {D : aj} {w : World} {A : Option Addr} {n c : Nat} {ts : List Pr} (h : yC D w (.slice A n c) ts) : n = ts.length ∧ n ≤ c ∧ (A = none → n = 0 ∧ c = 0) ∧ ∃ xs,nX D w xs ts ∧ ∀ ad,A = some ad → ∀ j u,xs[j]? = some u → w.cell? (ad.add j) = some u:=by
 obtain ⟨A',c',e,hle,hz,h3⟩:=h
 injection e with e1 e2 e3
 subst e1 e2 e3
 refine ⟨rfl,hle,fun e => ⟨by have:=hz e; omega,hz e⟩,?_⟩
 rcases Nat.eq_zero_or_pos ts.length with h0 | h0
 ·obtain rfl:=List.eq_nil_of_length_eq_zero h0
  exact ⟨[],.nil,fun _ _ j u hj => by simp at hj⟩
 ·obtain ⟨b,off,rfl,-,hr⟩:=h3 h0
  obtain ⟨xs,h1,h2⟩:=hr.cells
  refine ⟨xs,h1,fun ad e j u hj => ?_⟩
  obtain rfl:=Option.some.inj e
  rw [Go.WideShapes.add_plain]
  exact h2 j u hj
theorem yC.tail {D : aj} {w : World} {b off n cap c : Nat} {t : Pr} {ts : List Pr} (h : yC D w (.slice (some ⟨b,off,none⟩) n cap) (t :: ts)) (hc : ts.length ≤ c) : yC D w (.slice (some ⟨b,off + 19,none⟩) ts.length c) ts:=by
 obtain ⟨A',c',e,hle,hz,h3⟩:=h
 injection e with e1 e2 e3
 obtain ⟨b',off',e',hd,hr⟩:=h3 (by simp)
 rw [← e1] at e'
 obtain ⟨rfl,rfl⟩ : b = b' ∧ off = off':=by have:=Option.some.inj e'; injection this with h1 h2; exact ⟨h1,h2⟩
 exact ⟨_,c,rfl,hc,(fun e => by cases e),fun _ => ⟨b,off + 19,rfl,hd,hr.2⟩⟩
theorem Below.setCells {B b : Nat} {a : World} (hb : B ≤ b) : ∀ (vs : List Value) (o : Nat) (w : World),Below B a w → Below B a (w.setCells b o vs)
 | [],_,_,h => h
 | v :: r,o,w,h => Below.setCells hb r (o + 1) _ (h.setCell hb v)
theorem wpList_storePr {ops : Array Oper} {rest : List Oper} {op : Oper} {a : Act} {w : World} {Q : Exit → Act → World → Prop} {b : Nat} {t0 : Pr} {u1 u2 u3 u4 u5 u6 u7 : Value} (h : nK w b t0 u1 u2 u3 u4 u5 u6 u7) (hgd : op.guard = none) (x y : Operand) (ho : op.op = .store 85 x y) (hx : a.eval x = .pointer (some ⟨b,0,none⟩))
  (t : Pr) (aS aO aP jP aQ aB ak : Value) (hy : a.eval y = .agg #[.int .i64 t.kind,.string ⟨t.chan.toArray⟩,.string ⟨t.name.toArray⟩,.string ⟨t.label.toArray⟩,.int .i64 t.xk,.string ⟨t.xn.toArray⟩,.int .i64 t.xs,.int .i64 t.xv,.string ⟨t.xt.toArray⟩,aS,aO,aP,.int .i64 t.tk,.int .i64 t.ts,.string ⟨t.tn.toArray⟩,jP,aQ,aB,ak]) (h1 : ∀ u ∈ ([aS,aO,aP,jP,aQ,aB,ak] : List Value),u.oneCell' = true)
  (hK : ∀ W,nK W b t aS aO aP jP aQ aB ak → (∀ B a0,B ≤ b → Below B a0 w → Below B a0 W) → wpList Tryz.prog ops Q rest (a.put op.dst undef) W) : wpList Tryz.prog ops Q (op :: rest) a w:=by
 refine wpList_store_mid hgd 85 x y ho b 0 #[.int .i64 t.kind,.string ⟨t.chan.toArray⟩,.string ⟨t.name.toArray⟩,.string ⟨t.label.toArray⟩,.int .i64 t.xk,.string ⟨t.xn.toArray⟩,.int .i64 t.xs,.int .i64 t.xv,.string ⟨t.xt.toArray⟩,aS,aO,aP,.int .i64 t.tk,.int .i64 t.ts,.string ⟨t.tn.toArray⟩,jP,aQ,aB,ak] hx hy (fun j hj => ?_) (by kernel_rfl) ?_ (hK _ ?_ fun B a0 hB hb => Below.setCells hB _ _ _ hb)
 ·rw [Nat.zero_add]
  refine ⟨?_,h.fr j⟩
  match j,hj with
  | 0,_ => rw [h.c0]; rfl
  | 1,_ => rw [h.c1]; rfl
  | 2,_ => rw [h.c2]; rfl
  | 3,_ => rw [h.c3]; rfl
  | 4,_ => rw [h.c4]; rfl
  | 5,_ => rw [h.c5]; rfl
  | 6,_ => rw [h.c6]; rfl
  | 7,_ => rw [h.c7]; rfl
  | 8,_ => rw [h.c8]; rfl
  | 9,_ => rw [h.c9]; rfl
  | 10,_ => rw [h.c10]; rfl
  | 11,_ => rw [h.c11]; rfl
  | 12,_ => rw [h.c12]; rfl
  | 13,_ => rw [h.c13]; rfl
  | 14,_ => rw [h.c14]; rfl
  | 15,_ => rw [h.c15]; rfl
  | 16,_ => rw [h.c16]; rfl
  | 17,_ => rw [h.c17]; rfl
  | 18,_ => rw [h.c18]; rfl
  | j + 19,hj => exact absurd hj (by simp)
 ·refine all_oneCell_toArray (cs:=[.int .i64 t.kind,.string ⟨t.chan.toArray⟩,.string ⟨t.name.toArray⟩,.string ⟨t.label.toArray⟩,.int .i64 t.xk,.string ⟨t.xn.toArray⟩,.int .i64 t.xs,.int .i64 t.xv,.string ⟨t.xt.toArray⟩,aS,aO,aP,.int .i64 t.tk,.int .i64 t.ts,.string ⟨t.tn.toArray⟩,jP,aQ,aB,ak]) fun v hv => ?_
  simp only [List.mem_cons,List.not_mem_nil,or_false] at hv
  rcases hv with rfl | rfl | rfl | rfl | rfl | rfl | rfl | rfl | rfl | rfl | rfl | rfl | rfl | rfl | rfl | rfl | rfl | rfl | rfl
  all_goals (first | rfl | (exact h1 _ (by simp)))
 ·have hr:=World.rangeAt_setCells_same w b 0 [.int .i64 t.kind,.string ⟨t.chan.toArray⟩,.string ⟨t.name.toArray⟩,.string ⟨t.label.toArray⟩,.int .i64 t.xk,.string ⟨t.xn.toArray⟩,.int .i64 t.xs,.int .i64 t.xv,.string ⟨t.xt.toArray⟩,aS,aO,aP,.int .i64 t.tk,.int .i64 t.ts,.string ⟨t.tn.toArray⟩,jP,aQ,aB,ak] (fun j hj => by
   rw [Nat.zero_add]
   refine ⟨?_,h.fr j⟩
   match j,hj with
   | 0,_ => rw [h.c0]; rfl
   | 1,_ => rw [h.c1]; rfl
   | 2,_ => rw [h.c2]; rfl
   | 3,_ => rw [h.c3]; rfl
   | 4,_ => rw [h.c4]; rfl
   | 5,_ => rw [h.c5]; rfl
   | 6,_ => rw [h.c6]; rfl
   | 7,_ => rw [h.c7]; rfl
   | 8,_ => rw [h.c8]; rfl
   | 9,_ => rw [h.c9]; rfl
   | 10,_ => rw [h.c10]; rfl
   | 11,_ => rw [h.c11]; rfl
   | 12,_ => rw [h.c12]; rfl
   | 13,_ => rw [h.c13]; rfl
   | 14,_ => rw [h.c14]; rfl
   | 15,_ => rw [h.c15]; rfl
   | 16,_ => rw [h.c16]; rfl
   | 17,_ => rw [h.c17]; rfl
   | 18,_ => rw [h.c18]; rfl
   | j + 19,hj => exact absurd hj (by simp))
  have hz : ∀ (vs : List Value) (o : Nat) (w : World),(w.setCells b o vs).heap.size = w.heap.size:=by
   intro vs
   induction vs with
   | nil => intro o w; rfl
   | cons v r ih => intro o w; rw [World.setCells,ih,World.size_setCell]
  exact ⟨hr 0 _ rfl,hr 1 _ rfl,hr 2 _ rfl,hr 3 _ rfl,hr 4 _ rfl,hr 5 _ rfl,hr 6 _ rfl,hr 7 _ rfl,hr 8 _ rfl,hr 9 _ rfl,hr 10 _ rfl,hr 11 _ rfl,hr 12 _ rfl,hr 13 _ rfl,hr 14 _ rfl,hr 15 _ rfl,hr 16 _ rfl,hr 17 _ rfl,hr 18 _ rfl,fun j => by rw [World.frozen?_setCells]; exact h.fr j,by rw [hz]; exact h.lt⟩
theorem nK.range {w : World} {b : Nat} {t : Pr} {aS aO aP jP aQ aB ak : Value} (h : nK w b t aS aO aP jP aQ aB ak) : w.rangeAt b 0 [.int .i64 t.kind,.string ⟨t.chan.toArray⟩,.string ⟨t.name.toArray⟩,.string ⟨t.label.toArray⟩,.int .i64 t.xk,.string ⟨t.xn.toArray⟩,.int .i64 t.xs,.int .i64 t.xv,.string ⟨t.xt.toArray⟩,aS,aO,aP,.int .i64 t.tk,.int .i64 t.ts,.string ⟨t.tn.toArray⟩,jP,aQ,aB,ak]:=by
 intro j v hj
 rw [Nat.zero_add]
 match j,hj with
 | 0,hj => simp at hj; subst hj; exact h.c0
 | 1,hj => simp at hj; subst hj; exact h.c1
 | 2,hj => simp at hj; subst hj; exact h.c2
 | 3,hj => simp at hj; subst hj; exact h.c3
 | 4,hj => simp at hj; subst hj; exact h.c4
 | 5,hj => simp at hj; subst hj; exact h.c5
 | 6,hj => simp at hj; subst hj; exact h.c6
 | 7,hj => simp at hj; subst hj; exact h.c7
 | 8,hj => simp at hj; subst hj; exact h.c8
 | 9,hj => simp at hj; subst hj; exact h.c9
 | 10,hj => simp at hj; subst hj; exact h.c10
 | 11,hj => simp at hj; subst hj; exact h.c11
 | 12,hj => simp at hj; subst hj; exact h.c12
 | 13,hj => simp at hj; subst hj; exact h.c13
 | 14,hj => simp at hj; subst hj; exact h.c14
 | 15,hj => simp at hj; subst hj; exact h.c15
 | 16,hj => simp at hj; subst hj; exact h.c16
 | 17,hj => simp at hj; subst hj; exact h.c17
 | 18,hj => simp at hj; subst hj; exact h.c18
 | j + 19,hj => simp at hj
theorem uF {ops : Array Oper} {rest : List Oper} {op : Oper} {a : Act} {w : World} {Q : Exit → Act → World → Prop} {b : Nat} {t : Pr} {aS aO aP jP aQ aB ak : Value} (h : nK w b t aS aO aP jP aQ aB ak) (hgd : op.guard = none) (x : Operand) (ho : op.op = .load 85 x) (hx : a.eval x = .pointer (some ⟨b,0,none⟩))
  (hK : wpList Tryz.prog ops Q rest (a.put op.dst (.agg #[.int .i64 t.kind,.string ⟨t.chan.toArray⟩,.string ⟨t.name.toArray⟩,.string ⟨t.label.toArray⟩,.int .i64 t.xk,.string ⟨t.xn.toArray⟩,.int .i64 t.xs,.int .i64 t.xv,.string ⟨t.xt.toArray⟩,aS,aO,aP,.int .i64 t.tk,.int .i64 t.ts,.string ⟨t.tn.toArray⟩,jP,aQ,aB,ak])) w) : wpList Tryz.prog ops Q (op :: rest) a w :=
 wpList_load_mid hgd 85 x ho b 0 hx [.int .i64 t.kind,.string ⟨t.chan.toArray⟩,.string ⟨t.name.toArray⟩,.string ⟨t.label.toArray⟩,.int .i64 t.xk,.string ⟨t.xn.toArray⟩,.int .i64 t.xs,.int .i64 t.xv,.string ⟨t.xt.toArray⟩,aS,aO,aP,.int .i64 t.tk,.int .i64 t.ts,.string ⟨t.tn.toArray⟩,jP,aQ,aB,ak] _ h.range Tryz.underlying85 rfl (by kernel_rfl) hK
theorem wpList_loadPrAt {ops : Array Oper} {rest : List Oper} {op : Oper} {a : Act} {w : World} {Q : Exit → Act → World → Prop} {D : aj} {b off : Nat} {t : Pr} (h : yQ D w b off t) (hgd : op.guard = none) (x : Operand) (ho : op.op = .load 85 x) (hx : a.eval x = .pointer (some ⟨b,off,none⟩))
  (hK : ∀ aS aO aP jP aQ aB ak : Value,zn D w (.agg #[.int .i64 t.kind,.string ⟨t.chan.toArray⟩,.string ⟨t.name.toArray⟩,.string ⟨t.label.toArray⟩,.int .i64 t.xk,.string ⟨t.xn.toArray⟩,.int .i64 t.xs,.int .i64 t.xv,.string ⟨t.xt.toArray⟩,aS,aO,aP,.int .i64 t.tk,.int .i64 t.ts,.string ⟨t.tn.toArray⟩,jP,aQ,aB,ak]) t → wpList Tryz.prog ops Q rest (a.put op.dst (.agg #[.int .i64 t.kind,.string ⟨t.chan.toArray⟩,.string ⟨t.name.toArray⟩,.string ⟨t.label.toArray⟩,.int .i64 t.xk,.string ⟨t.xn.toArray⟩,.int .i64 t.xs,.int .i64 t.xv,.string ⟨t.xt.toArray⟩,aS,aO,aP,.int .i64 t.tk,.int .i64 t.ts,.string ⟨t.tn.toArray⟩,jP,aQ,aB,ak])) w) : wpList Tryz.prog ops Q (op :: rest) a w:=by
 obtain ⟨aS,aO,aP,jP,aQ,aB,ak,x0,x1,x2,x3,x4,x5,x6,x7,x8,x9,x10,x11,x12,MR,x14,x15,x16,x17,x18,q1,q2,q3,q4,q5,q6,q7⟩:=(vC _ _ _ _ _).1 h
 refine wpList_load_mid hgd 85 x ho b off hx [.int .i64 t.kind,.string ⟨t.chan.toArray⟩,.string ⟨t.name.toArray⟩,.string ⟨t.label.toArray⟩,.int .i64 t.xk,.string ⟨t.xn.toArray⟩,.int .i64 t.xs,.int .i64 t.xv,.string ⟨t.xt.toArray⟩,aS,aO,aP,.int .i64 t.tk,.int .i64 t.ts,.string ⟨t.tn.toArray⟩,jP,aQ,aB,ak] _ (fun j v hj => ?_) Tryz.underlying85 rfl (by kernel_rfl) (hK aS aO aP jP aQ aB ak (JH q1 q2 q3 q4 q5 q6 q7))
 match j,hj with
 | 0,hj => simp at hj; subst hj; exact x0
 | 1,hj => simp at hj; subst hj; exact x1
 | 2,hj => simp at hj; subst hj; exact x2
 | 3,hj => simp at hj; subst hj; exact x3
 | 4,hj => simp at hj; subst hj; exact x4
 | 5,hj => simp at hj; subst hj; exact x5
 | 6,hj => simp at hj; subst hj; exact x6
 | 7,hj => simp at hj; subst hj; exact x7
 | 8,hj => simp at hj; subst hj; exact x8
 | 9,hj => simp at hj; subst hj; exact x9
 | 10,hj => simp at hj; subst hj; exact x10
 | 11,hj => simp at hj; subst hj; exact x11
 | 12,hj => simp at hj; subst hj; exact x12
 | 13,hj => simp at hj; subst hj; exact MR
 | 14,hj => simp at hj; subst hj; exact x14
 | 15,hj => simp at hj; subst hj; exact x15
 | 16,hj => simp at hj; subst hj; exact x16
 | 17,hj => simp at hj; subst hj; exact x17
 | 18,hj => simp at hj; subst hj; exact x18
 | j + 19,hj => simp at hj
theorem nK.mkc {w : World} {b : Nat} {kind : Int} {chan : Str} {name : Str} {label : Str} {xk : Int} {xn : Str} {xs : Int} {xv : Int} {xt : Str} {af : List Ex} {exprs : List Ex} {names : List Str} {tk : Int} {ts : Int} {tn : Str} {tl : List Str} {ag : List Ty} {labels : List Str} {kids : List Pr} {v1 v2 v3 v4 v5 v6 v7 : Value} (h : nK w b (.mk kind chan name label xk xn xs xv xt af exprs names tk ts tn tl ag labels kids) v1 v2 v3 v4 v5 v6 v7) : w.cell? ⟨b,0,none⟩ = some (.int .i64 kind) ∧ w.cell? ⟨b,1,none⟩ = some (.string ⟨chan.toArray⟩) ∧ w.cell? ⟨b,2,none⟩ = some (.string ⟨name.toArray⟩) ∧ w.cell? ⟨b,3,none⟩ = some (.string ⟨label.toArray⟩) ∧ w.cell? ⟨b,4,none⟩ = some (.int .i64 xk) ∧ w.cell? ⟨b,5,none⟩ = some (.string ⟨xn.toArray⟩) ∧ w.cell? ⟨b,6,none⟩ = some (.int .i64 xs) ∧ w.cell? ⟨b,7,none⟩ = some (.int .i64 xv) ∧ w.cell? ⟨b,8,none⟩ = some (.string ⟨xt.toArray⟩) ∧ w.cell? ⟨b,9,none⟩ = some (v1) ∧ w.cell? ⟨b,10,none⟩ = some (v2) ∧ w.cell? ⟨b,11,none⟩ = some (v3) ∧ w.cell? ⟨b,12,none⟩ = some (.int .i64 tk) ∧ w.cell? ⟨b,13,none⟩ = some (.int .i64 ts) ∧ w.cell? ⟨b,14,none⟩ = some (.string ⟨tn.toArray⟩) ∧ w.cell? ⟨b,15,none⟩ = some (v4) ∧ w.cell? ⟨b,16,none⟩ = some (v5) ∧ w.cell? ⟨b,17,none⟩ = some (v6) ∧ w.cell? ⟨b,18,none⟩ = some (v7):=⟨h.c0,h.c1,h.c2,h.c3,h.c4,h.c5,h.c6,h.c7,h.c8,h.c9,h.c10,h.c11,h.c12,h.c13,h.c14,h.c15,h.c16,h.c17,h.c18⟩
end Go.Proofs.YtpidjanngbaiiaaGreatDoor
namespace Go.Proofs.YtpidjanngbaiiaaGreatDoor
open Go.RowKit Go.Proofs
set_option maxRecDepth 100000
set_option maxHeartbeats 32000000

def qQ (s n : Int) (t : List UInt8) : Int :=
 if s = 3 ∧ n = 0 then (if 100 < t.length then 2 else if Lib.validD t = true then 0 else 1)
 else if t = [] ∧ (s = 1 ∨ (s = 2 ∧ (n = 0 ∨ n = 1))) then 0 else 1
end Go.Proofs.YtpidjanngbaiiaaGreatDoor
namespace Go.Proofs.YtpidjanngbaiiaaGreatDoor
open Go.RowKit Go.Proofs
set_option maxRecDepth 100000
set_option maxHeartbeats 32000000

def level (op : Str) : Int :=
 if op = [111,114] then 1 else if op = [97,110,100] then 2
 else if op = [61,61] ∨ op = [60] ∨ op = [60,61] then 3
 else if op = [43] ∨ op = [45] ∨ op = [43,43] then 4
 else if op = [42] ∨ op = [47] ∨ op = [37] then 5 else 0
theorem wF (op : Str) : 0 ≤ level op ∧ level op ≤ 5:=by
 unfold level
 repeat' split
 all_goals decide
def lone (op : Str) : Bool:=decide (op = [110,111,116]) || (decide (op = [110,101,103]) || decide (op = [35]))
def bare (t : Ex) : Bool:=decide (t.vs = 0) && (decide (t.vn = 0) && decide (t.vt = []))
def bM (t : Ex) : Int :=
 if t.kind = 1 ∧ t.name = [] ∧ t.kids.length = 0 then qQ t.vs t.vn t.vt
 else if t.kind = 2 ∧ bare t = true ∧ t.kids.length = 0 ∧ ah t.name = true then 0
 else if t.kind = 3 ∧ bare t = true ∧ ((lone t.name = true ∧ t.kids.length = 1) ∨ (0 < level t.name ∧ t.kids.length = 2)) then 9
 else 1
section
variable {k : Int} {n : Str} {s v : Int} {x : Str} {ks : List Ex}
theorem exOne_1n (h : n ≠ []) : bM (.mk 1 n s v x ks) = 1:=by simp [bM,Ex.aN,Ex.aI,h]
theorem exOne_1k (h : ks.length ≠ 0) : bM (.mk 1 n s v x ks) = 1:=by
 have h' : ks ≠ []:=fun e => h (by rw [e]; rfl)
 simp [bM,Ex.aN,Ex.aI,Ex.aK,h']
theorem exOne_1 (h : ks.length = 0) : bM (.mk 1 [] s v x ks) = qQ s v x:=by unfold bM; exact if_pos ⟨rfl,rfl,h⟩
theorem exOne_2b (h : bare (.mk 2 n s v x ks) = false) : bM (.mk 2 n s v x ks) = 1:=by simp [bM,Ex.aN,h]
theorem exOne_2n (h : ah n = false) : bM (.mk 2 n s v x ks) = 1:=by simp [bM,Ex.aN,Ex.aI,h]
theorem exOne_2k (h : ks.length ≠ 0) : bM (.mk 2 n s v x ks) = 1:=by
 have h' : ks ≠ []:=fun e => h (by rw [e]; rfl)
 simp [bM,Ex.aN,Ex.aK,h']
theorem exOne_2 (h : bare (.mk 2 n s v x ks) = true) (hk : ks.length = 0) (hn : ah n = true) : bM (.mk 2 n s v x ks) = 0:=by
 have h' : ks = []:=List.eq_nil_of_length_eq_zero hk
 subst h'
 simp [bM,Ex.aN,Ex.aK,Ex.aI,h,hn]
theorem exOne_3 : bM (.mk 3 n s v x ks) = if bare (.mk 3 n s v x ks) = true ∧ ((lone n = true ∧ ks.length = 1) ∨ (0 < level n ∧ ks.length = 2)) then 9 else 1:=by simp [bM,Ex.aN,Ex.aK,Ex.aI]
theorem exOne_o (h1 : k ≠ 1) (h2 : k ≠ 2) (h3 : k ≠ 3) : bM (.mk k n s v x ks) = 1:=by simp [bM,Ex.aN,h1,h2,h3]
end
mutual
def nG (t : Ex) (left : Int) : Int × Int :=
 match t with
 | .mk k n s v x ks => if left - 1 < 0 then (2,left - 1) else if bM (.mk k n s v x ks) = 9 then qm ks (left - 1) else (bM (.mk k n s v x ks),left - 1)
def qm (ks : List Ex) (left : Int) : Int × Int :=
 match ks with
 | [] => (0,left)
 | k :: r => if (nG k left).1 = 0 then qm r (nG k left).2 else nG k left
end
def lF (t : Ex) : Int:=(nG t 60).1
def rV : Nat → List Ex → Int
 | _,[] => 0
 | 0,_ :: _ => 2
 | m + 1,t :: r => if bM t = 9 then rV m (t.kids ++ r) else if bM t = 0 then rV m r else bM t

def yN (m : Nat) (x : Int × Int) (stack rest : List Ex) : Prop :=
 (x.1 = 0 → ∃ m' : Nat,m' ≤ m ∧ x.2 = m' ∧ rV m stack = rV m' rest) ∧ (x.1 ≠ 0 → rV m stack = x.1)
theorem EH {t : Ex} (h : bM t ≠ 9) (h0 : bM t = 0) : t.kids = []:=by
 unfold bM at h h0
 split at h0
 ·rename_i h1; exact List.eq_nil_of_length_eq_zero h1.2.2
 ·split at h0
  ·rename_i h1; exact List.eq_nil_of_length_eq_zero h1.2.2.1
  ·split at h0 <;> omega
mutual
theorem Jh : ∀ (t : Ex) (rest : List Ex) (m : Nat),yN m (nG t m) (t :: rest) rest
 | .mk k n s v x ks,rest,m => by
  unfold nG yN
  cases m with
  | zero => simp [rV]
  | succ m =>
   have e1 : ¬ ((m + 1 : Nat) : Int) - 1 < 0:=by omega
   have e2 : ((m + 1 : Nat) : Int) - 1 = (m : Nat):=by omega
   rw [if_neg e1,e2]
   by_cases h9 : bM (.mk k n s v x ks) = 9
   ·rw [if_pos h9]
    have:=Hz ks rest m
    unfold yN at this
    refine ⟨fun h => ?_,fun h => ?_⟩
    ·obtain ⟨m',h1,h2,h3⟩:=this.1 h
     exact ⟨m',by omega,h2,by simp only [rV,if_pos h9]; exact h3⟩
    ·simp only [rV,if_pos h9]
     exact this.2 h
   ·rw [if_neg h9]
    refine ⟨fun h => ⟨m,by omega,rfl,?_⟩,fun h => ?_⟩
    ·simp only at h
     simp only [rV,if_neg h9,if_pos h]
    ·simp only at h
     simp only [rV,if_neg h9,if_neg h]
theorem Hz : ∀ (ks : List Ex) (rest : List Ex) (m : Nat),yN m (qm ks m) (ks ++ rest) rest
 | [],rest,m => by
  unfold qm yN
  exact ⟨fun _ => ⟨m,Nat.le_refl _,rfl,rfl⟩,fun h => absurd rfl h⟩
 | k :: r,rest,m => by
  unfold qm
  have h1:=Jh k (r ++ rest) m
  by_cases h : (nG k m).1 = 0
  ·rw [if_pos h]
   obtain ⟨m',h2,h3,h4⟩:=h1.1 h
   have h5:=Hz r rest m'
   rw [h3]
   unfold yN at h5 ⊢
   rw [List.cons_append,h4]
   refine ⟨fun h => ?_,h5.2⟩
   obtain ⟨m2,h6,h7⟩:=h5.1 h
   exact ⟨m2,by omega,h7⟩
  ·rw [if_neg h]
   exact ⟨fun h' => absurd h' h,h1.2⟩
end
theorem exErr_list (t : Ex) : rV 60 [t] = lF t:=by
 have:=Jh t [] 60
 unfold yN at this
 unfold lF
 by_cases h : (nG t (60 : Nat)).1 = 0
 ·obtain ⟨m',_,_,h2⟩:=this.1 h
  rw [h2]
  have e : (nG t 60).1 = 0:=h
  rw [e]
  cases m' <;> rfl
 ·exact this.2 h

inductive rQ : Ex → Prop where
 | mk (t : Ex) (h : bM t = 0 ∨ bM t = 9) (hk : ∀ k ∈ t.kids,rQ k) : rQ t
mutual
theorem CO : ∀ (t : Ex) (left : Int),(nG t left).1 = 0 → rQ t
 | .mk k n s v x ks,left,h => by
  unfold nG at h
  split at h
  ·simp at h
  ·split at h
   ·rename_i h9
    exact .mk _ (Or.inr h9) (DZ ks _ h)
   ·rename_i h9
    refine .mk _ (Or.inl h) ?_
    rw [EH h9 h]
    simp
theorem DZ : ∀ (ks : List Ex) (left : Int),(qm ks left).1 = 0 → ∀ t ∈ ks,rQ t
 | [],_,_ => by simp
 | k :: r,left,h => by
  unfold qm at h
  intro t ht
  split at h
  ·rename_i h1
   rcases List.mem_cons.1 ht with e | ht
   ·rw [e]; exact CO k _ h1
   ·exact DZ r _ h t ht
  ·rename_i h1
   exact absurd h h1
end

def esc (l : Str) : Str:=l.flatMap fun b => if b = 10 then [92,110] else if b = 92 ∨ b = 34 then [92,b] else [b]
def yA (s n : Int) (t : Str) : Str:=if s = 1 then Lib.itoa n else if s = 2 then (if n = 1 then [116,114,117,101] else [102,97,108,115,101]) else 34 :: (esc t ++ [34])
def ahead (n : Str) : Str:=if n = [110,101,103] then [45,32] else if n = [110,111,116] then [110,111,116,32] else n
def paren (b : Bool) (s : Str) : Str:=if b then 40 :: (s ++ [41]) else s
def ik : Ex → Str
 | .mk k n s v x [] => if k = 1 then yA s v x else n
 | .mk k n s v x [a] => if k = 1 then yA s v x else if k = 2 then n else ahead n ++ paren (decide (a.kids.length = 2)) (ik a)
 | .mk k n s v x (a :: b :: r) => if k = 1 then yA s v x else if k = 2 then n else
   paren (decide (a.kids.length = 2 ∧ level a.name < level n)) (ik a) ++ ([32] ++ n ++ [32]) ++ paren (decide (b.kids.length = 2 ∧ level b.name < level n + 1)) (ik b)
end Go.Proofs.YtpidjanngbaiiaaGreatDoor
namespace Go.Proofs.YtpidjanngbaiiaaGreatDoor
open Go.RowKit Go.Proofs
set_option maxRecDepth 100000
set_option maxHeartbeats 32000000

def su : List Str:=[[100,101,102],[115,116,111,112],[115,101,110,100],[114,101,99,118],[103,105,118,101],[116,97,107,101],[112,105,99,107],[99,97,115,101],[101,110,100],[115,112,97,119,110],[105,102],[101,108,115,101],[108,101,116],[112,114,105,110,116]]
def nz (l : Str) : Bool:=ah l && !decide (l ∈ su)
def aZ (l : List Str) : Bool:=decide (l.length ≤ 6) && l.all ah
namespace Pr
set_option maxRecDepth 100000
set_option maxHeartbeats 32000000
def ex (p : Pr) : Ex:=.mk p.xk p.xn p.xs p.xv p.xt p.af
def ty (p : Pr) : Ty:=.mk p.tk p.ts p.tn p.tl p.ag
end Pr
structure uN where
 chan : Bool
 name : Bool
 label : Bool
 expr : Bool
 exprs : Bool
 names : Bool
 type : Bool
 labels : Bool
 kids : Nat
def jO : uN:=⟨false,false,false,false,false,false,false,false,0⟩
def jw (k : Int) (nl : Nat) : uN :=
 if k = 2 then { jO with chan:=true,expr:=true,kids:=1 }
 else if k = 3 ∨ k = 4 ∨ k = 5 then { jO with chan:=true,name:=true,kids:=1 }
 else if k = 6 then { jO with chan:=true,label:=true,kids:=1 }
 else if k = 7 then { jO with chan:=true,labels:=true,kids:=nl }
 else if k = 8 then { jO with chan:=true,kids:=1 }
 else if k = 9 then { jO with chan:=true,names:=true,type:=true,kids:=2 }
 else if k = 10 then { jO with expr:=true,kids:=2 }
 else if k = 11 then { jO with name:=true,expr:=true,kids:=1 }
 else if k = 12 then { jO with expr:=true,kids:=1 }
 else if k = 13 then { jO with name:=true,exprs:=true,names:=true }
 else jO
def ai (want there right : Bool) : Bool:=(want && right) || (!want && !there)
def Ha (p : Pr) : Bool:=decide (p.xk = 0) && (decide (p.xn = []) && (bare p.ex && decide (p.af.length = 0)))
def He (p : Pr) : Bool:=decide (p.tk = 0) && (decide (p.ts = 0) && (decide (p.tn = []) && decide (p.tl.length + p.ag.length = 0)))
def named (p : Pr) : Bool:=ah p.name && (!decide (p.kind = 13) || nz p.name)
def zh (p : Pr) : Bool :=
 decide (1 ≤ p.kind) && (decide (p.kind ≤ 13) && (ai (jw p.kind p.labels.length).chan (!decide (p.chan = [])) (ah p.chan) && (ai (jw p.kind p.labels.length).name (!decide (p.name = [])) (named p) && (ai (jw p.kind p.labels.length).label (!decide (p.label = [])) (ah p.label) && (ai (jw p.kind p.labels.length).labels (!decide (p.labels.length = 0)) (aJ p.labels) && (ai (jw p.kind p.labels.length).names (!decide (p.names.length = 0)) (aZ p.names) && (ai (jw p.kind p.labels.length).expr (!Ha p) true && (ai (jw p.kind p.labels.length).exprs (!decide (p.exprs.length = 0)) (decide (p.exprs.length ≤ 6)) && (ai (jw p.kind p.labels.length).type (!He p) true && decide (p.kids.length = (jw p.kind p.labels.length).kids))))))))))
def o8 : List Ex → Int
 | [] => 0
 | x :: r => if lF x = 0 then o8 r else lF x
def nU (p : Pr) : Int :=
 if zh p = true then
  if o8 p.exprs = 0 then
   if (jw p.kind p.labels.length).expr = true ∧ lF p.ex ≠ 0 then lF p.ex
   else if (jw p.kind p.labels.length).type = true then pg p.ty else 0
  else o8 p.exprs
 else 1
mutual
def mG (t : Pr) (left : Int) : Int × Int :=
 match t with
 | .mk kind chan name label xk xn xs xv xt af exprs names tk ts tn tl ag labels kids =>
  if left - 1 < 0 then (2,left - 1)
  else if nU (.mk kind chan name label xk xn xs xv xt af exprs names tk ts tn tl ag labels kids) = 0 then qC kids (left - 1)
  else (nU (.mk kind chan name label xk xn xs xv xt af exprs names tk ts tn tl ag labels kids),left - 1)
def qC (ks : List Pr) (left : Int) : Int × Int :=
 match ks with
 | [] => (0,left)
 | k :: r => if (mG k left).1 = 0 then qC r (mG k left).2 else mG k left
end
def uP : Nat → List Pr → Int × Nat
 | m,[] => (0,m)
 | 0,_ :: _ => (2,0)
 | m + 1,t :: r => if nU t = 0 then uP m (t.kids ++ r) else (nU t,m)
def yO (m : Nat) (x : Int × Int) (stack rest : List Pr) : Prop :=
 (x.1 = 0 → ∃ m' : Nat,m' ≤ m ∧ x.2 = m' ∧ uP m stack = uP m' rest) ∧ (x.1 ≠ 0 → (uP m stack).1 = x.1)
mutual
theorem Ji : ∀ (t : Pr) (rest : List Pr) (m : Nat),yO m (mG t m) (t :: rest) rest
 | .mk kind chan name label xk xn xs xv xt af exprs names tk ts tn tl ag labels kids,rest,m => by
  unfold mG yO
  cases m with
  | zero => simp [uP]
  | succ m =>
   have e1 : ¬ ((m + 1 : Nat) : Int) - 1 < 0:=by omega
   have e2 : ((m + 1 : Nat) : Int) - 1 = (m : Nat):=by omega
   rw [if_neg e1,e2]
   by_cases h9 : nU (.mk kind chan name label xk xn xs xv xt af exprs names tk ts tn tl ag labels kids) = 0
   ·rw [if_pos h9]
    have:=H5 kids rest m
    unfold yO at this
    refine ⟨fun h => ?_,fun h => ?_⟩
    ·obtain ⟨m',h1,h2,h3⟩:=this.1 h
     exact ⟨m',by omega,h2,by simp only [uP,if_pos h9]; exact h3⟩
    ·simp only [uP,if_pos h9]
     exact this.2 h
   ·rw [if_neg h9]
    refine ⟨fun h => absurd h h9,fun h => ?_⟩
    simp only [uP,if_neg h9]
theorem H5 : ∀ (ks : List Pr) (rest : List Pr) (m : Nat),yO m (qC ks m) (ks ++ rest) rest
 | [],rest,m => by
  unfold qC yO
  exact ⟨fun _ => ⟨m,Nat.le_refl _,rfl,rfl⟩,fun h => absurd rfl h⟩
 | k :: r,rest,m => by
  unfold qC
  have h1:=Ji k (r ++ rest) m
  by_cases h : (mG k m).1 = 0
  ·rw [if_pos h]
   obtain ⟨m',h2,h3,h4⟩:=h1.1 h
   have h5:=H5 r rest m'
   rw [h3]
   unfold yO at h5 ⊢
   rw [List.cons_append,h4]
   refine ⟨fun h => ?_,h5.2⟩
   obtain ⟨m2,h6,h7⟩:=h5.1 h
   exact ⟨m2,by omega,h7⟩
  ·rw [if_neg h]
   exact ⟨fun h' => absurd h' h,h1.2⟩
end
theorem listP_one (t : Pr) (m : Nat) : (uP m [t]).1 = (mG t m).1 ∧ ((mG t m).1 = 0 → ((uP m [t]).2 : Int) = (mG t m).2):=by
 have:=Ji t [] m
 unfold yO at this
 by_cases h : (mG t m).1 = 0
 ·obtain ⟨m',_,h1,h2⟩:=this.1 h
  have e : uP m' [] = (0,m'):=by cases m' <;> rfl
  rw [h2,e]
  exact ⟨h.symm,fun _ => h1.symm⟩
 ·exact ⟨this.2 h,fun h' => absurd h' h⟩
structure Df where
 name : Str
 vals : List Str
 sorts : List Int
 chans : List Str
 types : List Ty
 body : Pr
def EG (d : Df) : Bool:=nz d.name && (aZ d.vals && (aZ d.chans && (decide (d.vals.length = d.sorts.length) && decide (d.chans.length = d.types.length))))
def mO (l : List Int) : Bool:=l.all fun s => decide (1 ≤ s) && decide (s ≤ 3)
def nC : List Ty → Int
 | [] => 0
 | t :: r => if pg t = 0 then nC r else pg t
def yF (d : Df) (left : Int) : Int × Int :=
 if EG d = true then if mO d.sorts = true then if nC d.types = 0 then mG d.body left else (nC d.types,left) else (1,left) else (1,left)
def nS : List Df → Int → Int
 | [],_ => 0
 | d :: r,left => if (yF d left).1 = 0 then nS r (yF d left).2 else (yF d left).1
def oP (l : List Df) : Int:=if l.length = 0 then 1 else if 10 < l.length then 2 else nS l 200
def bn (sep : Str) : List Str → Str
 | [] => []
 | [x] => x
 | x :: y :: r => x ++ (sep ++ bn sep (y :: r))
def comma : Str:=[44,32]
def oQ (p : Pr) (ks : List Str) : Str :=
 if p.kind = 1 then ([115,116,111,112] : Str)
 else if p.kind = 2 then ([115,101,110,100,32] : Str) ++ p.chan ++ [32] ++ ik p.ex ++ [59,32] ++ ks.getLastD []
 else if p.kind = 3 then ([114,101,99,118,32] : Str) ++ p.chan ++ [32] ++ p.name ++ [59,32] ++ ks.getLastD []
 else if p.kind = 4 then ([103,105,118,101,32] : Str) ++ p.chan ++ [32] ++ p.name ++ [59,32] ++ ks.getLastD []
 else if p.kind = 5 then ([116,97,107,101,32] : Str) ++ p.chan ++ [32] ++ p.name ++ [59,32] ++ ks.getLastD []
 else if p.kind = 6 then ([112,105,99,107,32] : Str) ++ p.chan ++ [32] ++ p.label ++ [59,32] ++ ks.getLastD []
 else if p.kind = 7 then ([99,97,115,101,32] : Str) ++ p.chan ++ [32,123] ++ bn comma (List.zipWith (fun l k => l ++ [58,32] ++ k) p.labels ks) ++ [125]
 else if p.kind = 8 then ([101,110,100,32] : Str) ++ p.chan ++ [59,32] ++ ks.getLastD []
 else if p.kind = 9 then ([115,112,97,119,110,32] : Str) ++ p.chan ++ [58] ++ txt p.ty ++ [32,40] ++ bn comma p.names ++ [41,32,123] ++ ks.headD [] ++ [125] ++ [59,32] ++ ks.getLastD []
 else if p.kind = 10 then ([105,102,32] : Str) ++ ik p.ex ++ [32,123] ++ ks.headD [] ++ ([125,32,101,108,115,101,32,123] : Str) ++ ks.getLastD [] ++ [125]
 else if p.kind = 11 then ([108,101,116,32] : Str) ++ p.name ++ [32,61,32] ++ ik p.ex ++ [59,32] ++ ks.getLastD []
 else if p.kind = 12 then ([112,114,105,110,116,32] : Str) ++ ik p.ex ++ [59,32] ++ ks.getLastD []
 else p.name ++ [40] ++ bn comma (p.exprs.map ik) ++ (if p.names.length = 0 then [] else [59,32] ++ bn comma p.names) ++ [41]
mutual
def lC : Pr → Str
 | .mk kind chan name label xk xn xs xv xt af exprs names tk ts tn tl ag labels kids => oQ (.mk kind chan name label xk xn xs xv xt af exprs names tk ts tn tl ag labels kids) (Be kids)
def Be : List Pr → List Str
 | [] => []
 | k :: r => lC k :: Be r
end
theorem Ef (ks : List Pr) : Be ks = ks.map lC:=by
 induction ks with
 | nil => rfl
 | cons k r ih => simp only [Be,List.map_cons,ih]
theorem jK (p : Pr) : lC p = oQ p (p.kids.map lC):=by
 cases p
 simp only [lC,Ef,Pr.aK]
def uU (n : Int) : Str:=if n = 1 then ([105,110,116] : Str) else if n = 2 then ([98,111,111,108] : Str) else if n = 3 then ([116,101,120,116] : Str) else []
def yG (d : Df) : Str :=
 ([100,101,102,32] : Str) ++ d.name ++ [40] ++ bn comma (List.zipWith (fun s n => s ++ [58] ++ uU n) d.vals d.sorts) ++ (if d.chans.length = 0 then [] else [59,32] ++ bn comma (List.zipWith (fun s t => s ++ [58] ++ txt t) d.chans d.types)) ++ ([41,32,61,32] : Str) ++ lC d.body ++ [10]
def nZ (l : List Df) : Str:=l.flatMap yG
mutual
def bG : Pr → Nat
 | .mk _ _ _ _ _ _ _ _ _ _ _ _ _ _ _ _ _ _ ks => 1 + oG ks
def oG : List Pr → Nat
 | [] => 0
 | k :: r => bG k + oG r
end
theorem uZ {ks : List Pr} {c : Pr} (h : c ∈ ks) : bG c ≤ oG ks:=by
 induction ks with
 | nil => simp at h
 | cons k r ih =>
  simp only [oG]
  rcases List.mem_cons.1 h with rfl | h
  ·omega
  ·have:=ih h; omega
theorem chkPs_drop {ks : List Pr} {l : Int} {k : Nat} {c : Pr} (h : ks[k]? = some c) : qC (ks.drop k) l = if (mG c l).1 = 0 then qC (ks.drop (k + 1)) (mG c l).2 else mG c l:=by
 obtain ⟨h1,h2⟩:=List.getElem?_eq_some_iff.1 h
 rw [List.drop_eq_getElem_cons h1,h2]
 rfl
mutual
theorem zt : ∀ (t : Pr) (l : Int),(mG t l).2 ≤ l ∧ ((mG t l).1 = 0 → 0 ≤ l → 0 ≤ (mG t l).2)
 | .mk kind chan name label xk xn xs xv xt af exprs names tk ts tn tl ag labels kids,l => by
  unfold mG
  split
  ·exact ⟨by simp only; omega,fun h => by simp at h⟩
  ·split
   ·have:=Fp kids (l - 1)
    exact ⟨by omega,fun h h' => this.2 h (by omega)⟩
   ·exact ⟨by simp only; omega,fun _ h => by simp only; omega⟩
theorem Fp : ∀ (ks : List Pr) (l : Int),(qC ks l).2 ≤ l ∧ ((qC ks l).1 = 0 → 0 ≤ l → 0 ≤ (qC ks l).2)
 | [],l => ⟨Int.le_refl _,fun _ h => h⟩
 | k :: r,l => by
  unfold qC
  have h1:=zt k l
  split
  ·rename_i h0
   have h2:=Fp r (mG k l).2
   exact ⟨by omega,fun h h' => h2.2 h (h1.2 h0 h')⟩
  ·exact h1
end
inductive pq : Pr → Prop where
 | mk (t : Pr) (h : nU t = 0) (hk : ∀ k ∈ t.kids,pq k) : pq t
mutual
theorem FH : ∀ (t : Pr) (left : Int),(mG t left).1 = 0 → pq t
 | .mk kind chan name label xk xn xs xv xt af exprs names tk ts tn tl ag labels kids,left,h => by
  unfold mG at h
  split at h
  ·simp at h
  ·split at h
   ·rename_i h0
    exact .mk _ h0 (D5 kids _ h)
   ·rename_i h0
    exact absurd h h0
theorem D5 : ∀ (ks : List Pr) (left : Int),(qC ks left).1 = 0 → ∀ k ∈ ks,pq k
 | [],_,_ => fun k hk => by simp at hk
 | k :: r,left,h => by
  unfold qC at h
  split at h
  ·rename_i h0
   intro x hx
   rcases List.mem_cons.1 hx with e | hx
   ·rw [e]; exact FH k left h0
   ·exact D5 r _ h x hx
  ·rename_i h0
   exact absurd h h0
end
mutual
theorem CB : ∀ (t : Pr) (l : Int),(mG t l).1 = 0 → (mG t l).2 + bG t = l
 | .mk kind chan name label xk xn xs xv xt af exprs names tk ts tn tl ag labels kids,l,h => by
  unfold mG at h ⊢
  split at h
  ·simp at h
  ·rename_i h0
   rw [if_neg h0]
   split at h
   ·rename_i h9
    rw [if_pos h9]
    have:=AZ kids (l - 1) h
    simp only [bG]
    omega
   ·rename_i h9
    exact absurd h h9
theorem AZ : ∀ (ks : List Pr) (l : Int),(qC ks l).1 = 0 → (qC ks l).2 + oG ks = l
 | [],l,_ => by simp [qC,oG]
 | k :: r,l,h => by
  unfold qC at h ⊢
  split at h
  ·rename_i h0
   rw [if_pos h0]
   have h1:=CB k l h0
   have h2:=AZ r _ h
   simp only [oG]
   omega
  ·rename_i h0
   exact absurd h h0
end
end Go.Proofs.YtpidjanngbaiiaaGreatDoor
