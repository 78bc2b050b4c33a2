/-
  The law's helpers: text, list, Same.
  Roles of a conversation: the program's roles; the reference's speaks and RolesOf.
  Sorted, then compacted: the rising list of the members (plain).
  Roles of a conversation: the reference's RolesOf; the program's Roles.
-/
import Derived.Test.YtgnkncfnkjeinaaDoorGsX
import Derived.Test.YtgnkncfnkjeinaaDoorM14
import Derived.Test.YtgnkncfnkjeinaaDoorM10
import Derived.Laws.AppendOwnNone
import Derived.Lib.SlicesCompact
import Derived.Test.YtgnkncfnkjeinaaDoorGlK4
import Derived.Sort.OwnSorted
import Derived.Lib.OwnBridge
import Derived.Sort.Grow
namespace Go.Proofs.YtgnkncfnkjeinaaDoor
open Go.RowKit Go.Proofs
set_option maxRecDepth 100000

set_option maxHeartbeats 1000000 in
theorem text_any (a b : Str) (e f : Int) (w : World) (h : (f ≠ 0 → e = f ∧ a = []) ∧ (f = 0 → e = 0 ∧ a = b)) :
    Calls Tryd.prog 15 #[.string ⟨a.toArray⟩, .int .i64 e, .string ⟨b.toArray⟩, .int .i64 f] w fun r w' => r = .returned (.bool true) ∧ w' = w := by
  by_cases hf : f = 0
  · obtain ⟨rfl, rfl⟩ := h.2 hf
    subst hf
    go_enter Tryd.func15, Tryd.ntmps15
    go_wp2_with fail
    go_ret
    exact ⟨by simp, rfl⟩
  · obtain ⟨rfl, rfl⟩ := h.1 hf
    have hb : (e != 0) = true := by rw [bne_iff_ne]; exact hf
    clear h hf
    go_enter Tryd.func15, Tryd.ntmps15
    go_wp2_with fail
    go_ret
    exact ⟨by simp, rfl⟩
set_option maxHeartbeats 2000000 in
theorem same_any (l : List Str) (va vb : Value) (w : World) (ha : IsStrs w va l) (hb : IsStrs w vb l) (hl : l.length ≤ 1000) :
    Calls Tryd.prog 73 #[va, vb] w fun e w' => e = .returned (.bool true) ∧ Below w.heap.size w w' := by
  have HA := Lib.hid ha
  have HB := Lib.hid hb
  obtain ⟨A, cA, rfl, -, -⟩ := ha
  obtain ⟨B, cB, rfl, -, -⟩ := hb
  obtain ⟨L, hL⟩ : ∃ x, l.length = x := ⟨_, rfl⟩
  rw [hL] at HA HB hl ⊢
  have HL := Lib.hid hL
  clear hL
  have hne : (L != L) = false := by simp
  go_enter Tryd.func73, Tryd.ntmps73
  go_wp2_with fail
  go_loopw [13] (fun i wr => ∃ q : Nat, q ≤ L ∧ i = .int .i64 q ∧ Below w.heap.size w wr) (fun i _ => L - (intOf i).toNat)
  case atStart => exact ⟨0, by omega, rfl, Below.refl _ _⟩
  case round =>
    obtain ⟨q, hq, rfl, hbN⟩ := hrel
    by_cases hlt : q < L
    · obtain ⟨x, hx⟩ : ∃ x, l[q]? = some x := ⟨_, List.getElem?_eq_getElem (by rw [HL.out]; exact hlt)⟩
      obtain ⟨_, _, eA, _, hrA⟩ := HA.out
      obtain ⟨bA, oA, rfl, hrowA⟩ := hrA (by rw [HL.out]; omega)
      injection eA with eA1 eA2 eA3
      subst eA1
      clear eA2 eA3
      obtain ⟨_, _, eB, _, hrB⟩ := HB.out
      obtain ⟨bB, oB, rfl, hrowB⟩ := hrB (by rw [HL.out]; omega)
      injection eB with eB1 eB2 eB3
      subst eB1
      clear eB2 eB3
      have c1 := cell_keep (hrowA q x hx) hbN
      have c2 := cell_keep (hrowB q x hx) hbN
      have hxx : (x != x) = false := by simp
      clear hrowA hrowB hrA hrB hx
      go_wp2_with fail
      go_quiet (fail)
      have hb2 := below_drewN hbN nq
      generalize wr.drewN nq = w2 at hb2 ⊢
      clear c1 c2
      go_wp2_with fail
      go_roundw
      case rel => exact ⟨q + 1, by omega, by go_num, hb2⟩
      case measure => simp [intOf]; omega
    · have hkL : q = L := by omega
      subst hkL
      clear hlt
      go_wp2_with fail
      go_ret
      exact ⟨rfl, hbN⟩
set_option maxHeartbeats 2000000 in
theorem list_bad (va vb : Value) (f : Int) (w : World) (hf : f ≠ 0) (ha : va = .slice none 0 0) :
    Calls Tryd.prog 38 #[va, .int .i64 f, vb, .int .i64 f] w fun e w' => e = .returned (.bool true) ∧ Below w.heap.size w w' := by
  subst ha
  have hfb : (f != 0) = true := by rw [bne_iff_ne]; exact hf
  clear hf
  go_enter Tryd.func38, Tryd.ntmps38
  go_wp2_with fail
  go_ret
  exact ⟨by simp, Below.refl _ _⟩
set_option maxHeartbeats 2000000 in
theorem list_ok (l : List Str) (va vb : Value) (w : World) (ha : IsStrs w va l) (hb : IsStrs w vb l) (hl : l.length ≤ 1000) :
    Calls Tryd.prog 38 #[va, .int .i64 0, vb, .int .i64 0] w fun e w' => e = .returned (.bool true) ∧ Below w.heap.size w w' := by
  have HS := Lib.hid (same_any l va vb w ha hb hl)
  obtain ⟨A, cA, rfl, -, -⟩ := ha
  obtain ⟨B, cB, rfl, -, -⟩ := hb
  go_enter Tryd.func38, Tryd.ntmps38
  go_wp2_with fail
  refine HS.out.mono ?_
  rintro e w1 ⟨rfl, hb1⟩
  go_wp2_with fail
  go_ret
  exact ⟨rfl, hb1⟩
end Go.Proofs.YtgnkncfnkjeinaaDoor
namespace Go.Proofs.YtgnkncfnkjeinaaDoor
open Go.RowKit Go.Proofs
set_option maxRecDepth 100000

section
variable {P : Program} {ops : Array Oper} {rest : List Oper} {o : Oper} {a : Act} {Q : Exit → Act → World → Prop} {w : World}
/-- append(xs, ys...) of two rows of the call's own. -/
theorem wpList_app_rows {T E : TypeId} {size bytes : Nat} (R : RowType P T E size bytes) (hgd : o.guard = none) (s x : Operand)
    (ho : o.op = .call { callee := .builtin .append, args := #[s, x], argTypes := #[T, T] })
    (base : Nat) (v : Value) (n : Nat) (xs : List Value) (hs : a.eval s = v) (hown : w.ownsRow base E size v n xs)
    (b2 : Nat) (y : Value) (m : Nat) (ys : List Value) (hx : a.eval x = y) (hsrc : w.ownsRow b2 E size y m ys) (h1 : ∀ u ∈ ys, u.oneCell' = true)
    (h63 : n + m ≤ maxLen) (hbytes : (n + m) * bytes ≤ 140737488355328) (hbase : base ≤ w.heap.size)
    (h : ∀ v' w', w'.ownsRow base E size v' (n + m) (xs ++ ys) → Below base w w' → wpList P ops Q rest (a.put o.dst v') w') : wpList P ops Q (o :: rest) a w := by
  have hsrc0 := hsrc
  rcases hsrc.2 with ⟨rfl, rfl⟩ | ⟨g, cap, cur, rfl, hg, hh, hn, hc, hcs, htake⟩
  · obtain ⟨i, z, hi, hz, hsize, hby, hzs⟩ := R.ex
    refine wpList_append_own_none hgd s x T ho base E i size R.ht hi v n xs hs hown hx ?_
    have : ys = [] := List.eq_nil_of_length_eq_zero (by rw [hsrc0.1]; omega)
    subst this
    exact h v w (by simpa using hown) (Below.refl _ _)
  · exact wpList_app R hgd s x ho base v n xs hs hown ⟨g, 0, none⟩ m cap ys hx hsrc0.1 (hsrc0.cells (g := g) rfl) h1 h63 hbytes hbase fun v' w' k1 _ _ k4 => h v' w' k1 k4
end


def RSays (t : Gl) (v : Value) (w : World) : Prop := Calls Tryd.prog 65 #[v] w fun e w' => Below w.heap.size w w' ∧ ∃ v', e = .returned v' ∧ w'.ownsRow w.heap.size 9 1 v' (grl t).length (strVals (grl t))
theorem grls_append (a : List Gl) (c : Gl) : grls (a ++ [c]) = grls a ++ grl c := by
  induction a with
  | nil => simp [grls]
  | cons x r ih => simp [grls, ih]
theorem grls_take {ks : List Gl} {k : Nat} {c : Gl} (h : ks[k]? = some c) : grls (ks.take (k + 1)) = grls (ks.take k) ++ grl c := by
  rw [List.take_add_one, h]
  exact grls_append _ _
theorem gpartss_take : ∀ (ks : List Gl) (k : Nat), gpartss (ks.take k) ≤ gpartss ks
  | [], k => by simp [gpartss]
  | t :: r, 0 => by simp [gpartss]
  | t :: r, k + 1 => by have := gpartss_take r k; simp only [List.take_succ_cons, gpartss]; omega
theorem two_new (w : World) (a b : Value) (E : TypeId) : ∀ j u, [a, b][j]? = some u → (w.alloc (.cells #[a, b] E)).cell? ((⟨w.heap.size, 0, none⟩ : Addr).add j) = some u := by
  intro j u h
  match j, h with
  | 0, h => simp at h; subst h; simp [go_sem, Addr.add]
  | 1, h => simp at h; subst h; simp [go_sem, Addr.add]
  | j + 2, h => simp at h
theorem oneCell_strs (l : List Str) : ∀ u ∈ strVals l, u.oneCell' = true := by
  intro u hu
  obtain ⟨r, _, rfl⟩ := List.mem_map.1 hu
  rfl
set_option maxHeartbeats 4000000 in
theorem roles_any : ∀ (m : Nat) (t : Gl) (v : Value) (w : World), gparts t ≤ m → gparts t ≤ 60 → IsGl w v t → GGood t → RSays t v w := by
  intro m
  induction m with
  | zero => intro t v w h; cases t; simp only [gparts] at h; omega
  | succ m ih =>
  intro t v w hm h60 hv hg
  obtain ⟨k, f, o, s, n, ls, ks⟩ := t
  have hsm := hg.gsh.small
  have hkids := hg.kid
  have hgr := grl_len (.mk k f o s n ls ks)
  simp only [Gl.kind, Gl.frm, Gl.rcv, Gl.sort, Gl.name, Gl.labels, Gl.kids] at hsm hkids
  simp only [gparts] at hm h60 hgr
  have HKS : Hid (∀ c ∈ ks, gparts c ≤ m ∧ gparts c ≤ 60 ∧ GGood c) := Lib.hid fun c hc => by
    have := gparts_at hc
    exact ⟨by omega, by omega, hkids c hc⟩
  obtain ⟨hf1, ho1, -, -, -, hk6⟩ := hsm
  clear hg hkids
  obtain ⟨lv, kv, rfl, hs1, hs2⟩ := hv
  simp only [Gl.kind, Gl.frm, Gl.rcv, Gl.sort, Gl.name, Gl.labels, Gl.kids] at hs1 hs2 ⊢
  obtain ⟨A0, p0, rfl, -, -⟩ := hs1
  have HK := Lib.hid hs2
  obtain ⟨A, cap, rfl, -, -⟩ := hs2
  unfold RSays
  obtain ⟨PRE, hPRE⟩ : ∃ x, (if f = [] then ([] : List Str) else [f, o]) = x := ⟨_, rfl⟩
  have hgl : ∀ k, (PRE ++ grls (ks.take k)).length ≤ 200 := fun k => by
    have h1 := grls_len (ks.take k)
    have h2 := gpartss_take ks k
    have h3 : PRE.length ≤ 2 := by rw [← hPRE]; split <;> simp
    rw [List.length_append]; omega
  have hgk : ∀ c ∈ ks, (grl c).length ≤ 200 := fun c hc => by
    have h1 := grl_len c
    have h2 := (HKS.out c hc).2.1
    omega
  have HGL := Lib.hid hgl
  have HGK := Lib.hid hgk
  clear hgl hgk hgr
  have hans : grl (.mk k f o s n ls ks) = PRE ++ grls ks := by simp only [grl, hPRE]
  rw [hans]
  clear hans
  have HPRE := Lib.hid hPRE
  clear hPRE
  go_enter Tryd.func65, Tryd.ntmps65
  obtain ⟨k', hk'⟩ : ∃ x : Int, x = k := ⟨_, rfl⟩
  by_cases hfe : f = []
  case' pos =>
    have hpre : Hid (PRE = []) := Lib.hid (by rw [← HPRE.out, if_pos hfe])
    subst hfe
    go_wp2_with fail
    obtain ⟨W, hW⟩ : ∃ W, w.alloc (.cells #[.int .i64 k, .string ⟨#[]⟩, .string ⟨o.toArray⟩, .int .i64 s, .string ⟨n.toArray⟩, .slice A0 ls.length p0, .slice A ks.length cap] 52) = W := ⟨_, rfl⟩
    have hbW : Below w.heap.size w W := by subst hW; go_grown
    have hWs : W.heap.size = w.heap.size + 1 := by subst hW; simp
    have X1 : W.cell? ⟨w.heap.size, 1, none⟩ = some (.string ⟨([] : Str).toArray⟩) := by subst hW; simp [go_sem]
    have X2 : W.cell? ⟨w.heap.size, 2, none⟩ = some (.string ⟨o.toArray⟩) := by subst hW; simp [go_sem]
    have X6 : W.cell? ⟨w.heap.size, 6, none⟩ = some (.slice A ks.length cap) := by subst hW; simp [go_sem]
    try rw [hW]
    clear hW
    obtain ⟨W0, hW0⟩ : ∃ x, x = W := ⟨_, rfl⟩
    rw [← hW0]
    have hb0 : Below (w.heap.size + 1) W W0 := by rw [hW0]; exact Below.refl _ _
    have own0 : W0.ownsRow (w.heap.size + 1) 9 1 (.slice none 0 0) (PRE ++ grls (ks.take 0)).length (strVals (PRE ++ grls (ks.take 0))) := by rw [hpre.out]; exact World.ownsRow_nil _ _ _ _
    clear hW0
  case' neg =>
    have hpre : Hid (PRE = [f, o]) := Lib.hid (by rw [← HPRE.out, if_neg hfe])
    have hfb : (f == []) = false := by simpa using hfe
    clear hfe
    go_wp2_with (at_builtin; go_must (obtain ⟨W, hW⟩ : ∃ W, w.alloc (.cells #[.int .i64 k, .string ⟨f.toArray⟩, .string ⟨o.toArray⟩, .int .i64 s, .string ⟨n.toArray⟩, .slice A0 ls.length p0, .slice A ks.length cap] 52) = W := ⟨_, rfl⟩; have hbW : Below w.heap.size w W := (by subst hW; go_grown); have hWs : W.heap.size = w.heap.size + 1 := (by subst hW; simp); have X1 : W.cell? ⟨w.heap.size, 1, none⟩ = some (.string ⟨f.toArray⟩) := (by subst hW; simp [go_sem]); have X2 : W.cell? ⟨w.heap.size, 2, none⟩ = some (.string ⟨o.toArray⟩) := (by subst hW; simp [go_sem]); have X6 : W.cell? ⟨w.heap.size, 6, none⟩ = some (.slice A ks.length cap) := (by subst hW; simp [go_sem]); rw [hW]; clear hW; refine wpList_app rt_strs rfl (.tmp 9) (.tmp 14) rfl (w.heap.size + 1) _ 0 [] rfl (World.ownsRow_nil _ _ _ _) ⟨w.heap.size + 1, 0, none⟩ 2 2 [.string ⟨f.toArray⟩, .string ⟨o.toArray⟩] rfl rfl (fun j u hj => by rw [← hWs]; exact two_new W _ _ _ j u hj) (by simp [Value.oneCell']) (by unfold maxLen; omega) (by omega) (by rw [World.size_alloc]; omega) ?_; intro v0 W0 n1 n2 n3 n4; have hb0 : Below (w.heap.size + 1) W W0 := ((Below.refl _ _).alloc (by omega) _).trans n4; have x6 := cell_keep X6 (show Below W.heap.size W W0 by rw [hWs]; exact hb0); clear n4))
    have own0 : W0.ownsRow (w.heap.size + 1) 9 1 v0 (PRE ++ grls (ks.take 0)).length (strVals (PRE ++ grls (ks.take 0))) := by rw [hpre.out]; exact n1
    clear n1 n2 n3
  all_goals
    replace HK := Lib.hid (HK.out.below hbW)
    go_loopw [3, 19] (fun lv i wr => ∃ q : Nat, q ≤ ks.length ∧ i = .int .i64 q ∧ wr.ownsRow (w.heap.size + 1) 9 1 lv (PRE ++ grls (ks.take q)).length (strVals (PRE ++ grls (ks.take q))) ∧ Below (w.heap.size + 1) W wr) (fun _ i _ => ks.length - (intOf i).toNat)
    case atStart => exact ⟨0, by omega, rfl, own0, hb0⟩
    case round =>
      obtain ⟨q, hq, rfl, hown, hbN⟩ := hrel
      have hbr : Below W.heap.size W wr := by rw [hWs]; exact hbN
      have hNr := hbr.size
      rw [hWs] at hNr
      obtain ⟨Av, capv, rfl⟩ := own_form hown
      by_cases hlt : q < ks.length
      · obtain ⟨RQ, hRQ⟩ : ∃ x, PRE ++ grls (ks.take q) = x := ⟨_, rfl⟩
        have hg1 := HGL.out q
        rw [hRQ] at hown hg1 ⊢
        have HRQ := Lib.hid hRQ
        clear hRQ
        obtain ⟨c, hc⟩ : ∃ x, ks[q]? = some x := ⟨_, List.getElem?_eq_getElem hlt⟩
        have HC := Lib.hid hc
        obtain ⟨-, -, b, off, A1, n1, p1, A2, n2, p2, rfl, -, c0, c1, c2, c3, c4, c5, c6, hl', hk'⟩ := gkid_at HK.out hc
        have HL' := Lib.hid (hl'.below hbr); have HK' := Lib.hid (hk'.below hbr); clear hl' hk' hc
        have hcm := HKS.out c (mem_of_at HC.out)
        replace c0 := cell_keep c0 hbr
        replace c1 := cell_keep c1 hbr
        replace c2 := cell_keep c2 hbr
        replace c3 := cell_keep c3 hbr
        replace c4 := cell_keep c4 hbr
        replace c5 := cell_keep c5 hbr
        replace c6 := cell_keep c6 hbr
        obtain ⟨wa, hwa⟩ : ∃ y, wr.alloc (.cells #[.int .i64 c.kind, .string ⟨c.frm.toArray⟩, .string ⟨c.rcv.toArray⟩, .int .i64 c.sort, .string ⟨c.name.toArray⟩, .slice A1 n1 p1, .slice A2 n2 p2] 52) = y := ⟨_, rfl⟩
        have hba : Below wr.heap.size wr wa := by subst hwa; exact (Below.refl _ _).alloc (Nat.le_refl _) _
        have hkb : GBox wa wr.heap.size c (.slice A1 n1 p1) (.slice A2 n2 p2) := by subst hwa; exact new_gval wr c (.slice A1 n1 p1) (.slice A2 n2 p2) 52
        obtain ⟨k0, k1, k2, k3, k4, k5, k6, k7, k8⟩ := id hkb
        have hg2 := HGK.out c (mem_of_at HC.out)
        obtain ⟨RC, hRC⟩ : ∃ x, grl c = x := ⟨_, rfl⟩
        have hcall := ih c (.agg #[.int .i64 c.kind, .string ⟨c.frm.toArray⟩, .string ⟨c.rcv.toArray⟩, .int .i64 c.sort, .string ⟨c.name.toArray⟩, .slice A1 n1 p1, .slice A2 n2 p2]) wa hcm.1 hcm.2.1 (glV_of (HL'.out.below hba) (HK'.out.below hba)) hcm.2.2
        unfold RSays at hcall
        rw [hRC] at hcall hg2
        have HRC := Lib.hid hRC
        clear hRC
        have e3 : Hid (PRE ++ grls (ks.take (q + 1)) = RQ ++ RC) := Lib.hid (by rw [grls_take HC.out, ← List.append_assoc, HRQ.out, HRC.out])
        have HCL := Lib.hid hcall
        clear hcall
        go_wp2_with fail
        try rw [hwa]
        clear hwa
        refine HCL.out.mono ?_
        rintro e w1 ⟨hq1, v', rfl, hrow⟩
        have hb1 : Below wr.heap.size wr w1 := chain hba hq1
        have hs1 := hb1.size
        have own1 := own_keep hown hb1 (Nat.le_refl _)
        clear hown
        go_wp2_with (at_builtin; go_must (refine wpList_app_rows rt_strs rfl (.tmp 23) (.tmp 25) rfl (w.heap.size + 1) _ _ _ rfl own1 wa.heap.size _ _ _ rfl hrow (oneCell_strs _) (by unfold maxLen; omega) (by omega) (by omega) ?_; intro v3 w3 n1 n4))
        have own3 : w3.ownsRow (w.heap.size + 1) 9 1 v3 (PRE ++ grls (ks.take (q + 1))).length (strVals (PRE ++ grls (ks.take (q + 1)))) := by
          rw [e3.out, List.length_append]
          show w3.ownsRow _ _ _ _ _ (List.map _ (RQ ++ RC))
          rw [List.map_append]
          exact n1
        have hb3 := hbN.trans ((hb1.mono hNr).trans n4)
        clear n1 n4 own1 hrow
        go_roundw
        case rel => exact ⟨q + 1, by omega, by go_num, own3, hb3⟩
        case measure => simp [intOf]; omega
      · have hkL : q = ks.length := by omega
        subst hkL
        clear hlt
        rw [List.take_length] at hown ⊢
        go_wp2_with fail
        go_ret
        exact ⟨chain hbW hbr, _, rfl, own_mono hown (Nat.le_succ _)⟩

theorem gspks_append (r : Str) (a : List Gl) (c : Gl) : gspks r (a ++ [c]) = (gspks r a || gspk r c) := by
  induction a with
  | nil => simp [gspks]
  | cons x t ih => simp [gspks, ih, Bool.or_assoc]
theorem gspks_take {r : Str} {ks : List Gl} {k : Nat} {c : Gl} (h : ks[k]? = some c) : gspks r (ks.take (k + 1)) = (gspks r (ks.take k) || gspk r c) := by
  rw [List.take_add_one, h]
  exact gspks_append _ _ _
theorem gspks_mono (r : Str) : ∀ (ks : List Gl) (k : Nat), gspks r (ks.take k) = true → gspks r ks = true
  | [], k, h => by simp [gspks] at h
  | t :: s, 0, h => by simp [gspks] at h
  | t :: s, k + 1, h => by
    simp only [List.take_succ_cons, gspks, Bool.or_eq_true] at h ⊢
    rcases h with h | h
    · exact .inl h
    · exact .inr (gspks_mono r s k h)
def PSays (r : Str) (t : Gl) (v : Value) (w : World) : Prop := Calls Tryd.prog 71 #[v, .string ⟨r.toArray⟩] w fun e w' => e = .returned (.bool (gspk r t)) ∧ Below w.heap.size w w'
set_option maxHeartbeats 4000000 in
theorem speaks_any (r : Str) : ∀ (m : Nat) (t : Gl) (v : Value) (w : World), gparts t ≤ m → gparts t ≤ 60 → IsGl w v t → GGood t → PSays r t v w := by
  intro m
  induction m with
  | zero => intro t v w h; cases t; simp only [gparts] at h; omega
  | succ m ih =>
  intro t v w hm h60 hv hg
  obtain ⟨k, f, o, s, n, ls, ks⟩ := t
  have hsm := hg.gsh.small
  have hkids := hg.kid
  have hgr := grl_len (.mk k f o s n ls ks)
  simp only [Gl.kind, Gl.frm, Gl.rcv, Gl.sort, Gl.name, Gl.labels, Gl.kids] at hsm hkids
  simp only [gparts] at hm h60 hgr
  have HKS : Hid (∀ c ∈ ks, gparts c ≤ m ∧ gparts c ≤ 60 ∧ GGood c) := Lib.hid fun c hc => by
    have := gparts_at hc
    exact ⟨by omega, by omega, hkids c hc⟩
  obtain ⟨hf1, ho1, -, -, -, hk6⟩ := hsm
  clear hg hkids
  obtain ⟨lv, kv, rfl, hs1, hs2⟩ := hv
  simp only [Gl.kind, Gl.frm, Gl.rcv, Gl.sort, Gl.name, Gl.labels, Gl.kids] at hs1 hs2 ⊢
  obtain ⟨A0, p0, rfl, -, -⟩ := hs1
  have HK := Lib.hid hs2
  obtain ⟨A, cap, rfl, -, -⟩ := hs2
  clear hgr
  unfold PSays
  obtain ⟨B0, hB0⟩ : ∃ x, (f == r || o == r) = x := ⟨_, rfl⟩
  have hans : gspk r (.mk k f o s n ls ks) = (B0 || gspks r ks) := by simp only [gspk, hB0]
  rw [hans]
  clear hans
  have HB0 := Lib.hid hB0
  clear hB0
  go_enter Tryd.func71, Tryd.ntmps71
  cases h1 : (f == r)
  case' true => have hb0 : Hid (B0 = true) := Lib.hid (by rw [← HB0.out, h1]; rfl)
  case' false =>
    cases h2 : (o == r)
    case' true => have hb0 : Hid (B0 = true) := Lib.hid (by rw [← HB0.out, h1, h2]; rfl)
    case' false => have hb0 : Hid (B0 = false) := Lib.hid (by rw [← HB0.out, h1, h2]; rfl)
  all_goals
    go_wp2_with fail
    obtain ⟨W, hW⟩ : ∃ W, w.alloc (.cells #[.int .i64 k, .string ⟨f.toArray⟩, .string ⟨o.toArray⟩, .int .i64 s, .string ⟨n.toArray⟩, .slice A0 ls.length p0, .slice A ks.length cap] 52) = W := ⟨_, rfl⟩
    have hbW : Below w.heap.size w W := by subst hW; go_grown
    have hWs : W.heap.size = w.heap.size + 1 := by subst hW; simp
    have X1 : W.cell? ⟨w.heap.size, 1, none⟩ = some (.string ⟨f.toArray⟩) := by subst hW; simp [go_sem]
    have X2 : W.cell? ⟨w.heap.size, 2, none⟩ = some (.string ⟨o.toArray⟩) := by subst hW; simp [go_sem]
    have X6 : W.cell? ⟨w.heap.size, 6, none⟩ = some (.slice A ks.length cap) := by subst hW; simp [go_sem]
    try rw [hW]
    clear hW
    replace HK := Lib.hid (HK.out.below hbW)
    go_loopw [5, 6] (fun ok i wr => ∃ q : Nat, q ≤ ks.length ∧ i = .int .i64 q ∧ ok = .bool (B0 || gspks r (ks.take q)) ∧ Below (w.heap.size + 1) W wr) (fun _ i _ => ks.length - (intOf i).toNat)
    case atStart => exact ⟨0, by omega, rfl, by simp [hb0.out, gspks], Below.refl _ _⟩
    case round =>
      obtain ⟨q, hq, rfl, rfl, hbN⟩ := hrel
      have hbr : Below W.heap.size W wr := by rw [hWs]; exact hbN
      have hNr := hbr.size
      rw [hWs] at hNr
      have x6 := cell_keep X6 hbr
      have HMO := Lib.hid (gspks_mono r ks q)
      by_cases hlt : q < ks.length
      · cases hbb : (B0 || gspks r (ks.take q)) with
        | true =>
          have hfin : Hid ((B0 || gspks r ks) = true) := Lib.hid (by
            rcases Bool.or_eq_true _ _ ▸ hbb with h | h
            · simp [h]
            · simp [HMO.out h])
          clear hbb
          go_wp2_with fail
          go_ret
          exact ⟨by rw [hfin.out]; rfl, chain hbW hbr⟩
        | false =>
          obtain ⟨c, hc⟩ : ∃ x, ks[q]? = some x := ⟨_, List.getElem?_eq_getElem hlt⟩
          have HC := Lib.hid hc
          obtain ⟨-, -, b, off, A1, n1, p1, A2, n2, p2, rfl, -, c0, c1, c2, c3, c4, c5, c6, hl', hk'⟩ := gkid_at HK.out hc
          have HL' := Lib.hid (hl'.below hbr); have HK' := Lib.hid (hk'.below hbr); clear hl' hk' hc
          have hcm := HKS.out c (mem_of_at HC.out)
          replace c0 := cell_keep c0 hbr
          replace c1 := cell_keep c1 hbr
          replace c2 := cell_keep c2 hbr
          replace c3 := cell_keep c3 hbr
          replace c4 := cell_keep c4 hbr
          replace c5 := cell_keep c5 hbr
          replace c6 := cell_keep c6 hbr
          have HBB := Lib.hid hbb
          clear hbb
          have hcall := ih c (.agg #[.int .i64 c.kind, .string ⟨c.frm.toArray⟩, .string ⟨c.rcv.toArray⟩, .int .i64 c.sort, .string ⟨c.name.toArray⟩, .slice A1 n1 p1, .slice A2 n2 p2]) wr hcm.1 hcm.2.1 (glV_of HL'.out HK'.out) hcm.2.2
          unfold PSays at hcall
          have HCL := Lib.hid hcall
          have htk : Hid ((B0 || gspks r (ks.take (q + 1))) = gspk r c) := Lib.hid (by rw [gspks_take HC.out, ← Bool.or_assoc, HBB.out]; rfl)
          clear hcall
          go_wp2_with fail
          refine HCL.out.mono ?_
          rintro e w1 ⟨rfl, hq1⟩
          have hb3 := hbN.trans (hq1.mono hNr)
          clear c0 c1 c2 c3 c4 c5 c6
          go_wp2_with fail
          go_roundw
          case rel => exact ⟨q + 1, by omega, by go_num, by rw [htk.out], hb3⟩
          case measure => simp [intOf]; omega
      · have hkL : q = ks.length := by omega
        subst hkL
        clear hlt
        rw [List.take_length]
        cases hbb : (B0 || gspks r ks)
        all_goals
          have HBB := Lib.hid hbb
          clear hbb
          go_wp2_with fail
          go_ret
          exact ⟨by rw [HBB.out]; rfl, chain hbW hbr⟩
end Go.Proofs.YtgnkncfnkjeinaaDoor
namespace Go.Proofs.YtgnkncfnkjeinaaDoor
open Go.Lib
theorem le_or (a b : List UInt8) : (decide (a ≤ b) || decide (b ≤ a)) = true := by
  rcases List.le_total a b with h | h <;> simp [h]
theorem sorted_at {l : List (List UInt8)} (h : l.Pairwise (· ≤ ·)) {i j : Nat} (hij : i ≤ j) (hj : j < l.length) : l.toArray[i]! ≤ l.toArray[j]! := by
  have hi : i < l.length := by omega
  simp only [List.getElem!_toArray]
  rw [getElem!_pos l i hi, getElem!_pos l j hj]
  rcases Nat.lt_or_eq_of_le hij with h1 | rfl
  · exact List.pairwise_iff_getElem.1 h i j hi hj h1
  · exact List.le_refl _
theorem compact_sorted {l : List (List UInt8)} (h : l.Pairwise (· ≤ ·)) : ∀ m, m ≤ l.length → (compactUpTo l.toArray m).Pairwise (· < ·) ∧ ∀ x, x ∈ compactUpTo l.toArray m ↔ ∃ j, j < m ∧ l.toArray[j]! = x := by
  intro m
  induction m with
  | zero => intro _; simp [compactUpTo]
  | succ m ih =>
    intro hm
    obtain ⟨h1, h2⟩ := ih (by omega)
    rw [compactUpTo_succ]
    by_cases hk : keeps l.toArray m = true
    · rw [if_pos hk]
      simp only [keeps, decide_eq_true_eq] at hk
      refine ⟨List.pairwise_append.2 ⟨h1, by simp, fun x hx y hy => ?_⟩, fun x => ?_⟩
      · simp at hy
        subst hy
        obtain ⟨j, hj, rfl⟩ := (h2 x).1 hx
        have hne : l.toArray[m]! ≠ l.toArray[m - 1]! := by
          rcases hk with rfl | hk
          · omega
          · simpa using hk
        have a1 : l.toArray[j]! ≤ l.toArray[m - 1]! := sorted_at h (by omega) (by omega)
        have a2 : l.toArray[m - 1]! ≤ l.toArray[m]! := sorted_at h (by omega) (by omega)
        have a3 : l.toArray[m - 1]! < l.toArray[m]! := by
          rcases List.le_iff_lt_or_eq.1 a2 with a | a
          · exact a
          · exact absurd a.symm hne
        have := List.lt_of_le_of_lt a1 a3
        simpa using this
      · rw [List.mem_append, h2]
        constructor
        · rintro (⟨j, hj, e⟩ | hx)
          · exact ⟨j, by omega, e⟩
          · simp at hx; exact ⟨m, by omega, by simp [hx]⟩
        · rintro ⟨j, hj, e⟩
          rcases Nat.lt_or_eq_of_le (Nat.le_of_lt_succ hj) with h3 | rfl
          · exact .inl ⟨j, h3, e⟩
          · right; simp [← e]
    · rw [if_neg hk]
      simp only [keeps, decide_eq_true_eq, not_or, Decidable.not_not] at hk
      refine ⟨by simpa using h1, fun x => ?_⟩
      rw [List.append_nil, h2]
      constructor
      · rintro ⟨j, hj, e⟩; exact ⟨j, by omega, e⟩
      · rintro ⟨j, hj, e⟩
        rcases Nat.lt_or_eq_of_le (Nat.le_of_lt_succ hj) with h3 | rfl
        · exact ⟨j, h3, e⟩
        · exact ⟨j - 1, by omega, by rw [← hk.2]; exact e⟩
theorem eq_of_rising : ∀ {a b : List (List UInt8)}, a.Pairwise (· < ·) → b.Pairwise (· < ·) → (∀ x, x ∈ a ↔ x ∈ b) → a = b
  | [], [], _, _, _ => rfl
  | [], y :: b, _, _, h => by have := (h y).2 (by simp); simp at this
  | x :: a, [], _, _, h => by have := (h x).1 (by simp); simp at this
  | x :: a, y :: b, ha, hb, h => by
    rw [List.pairwise_cons] at ha hb
    have e : x = y := by
      have h1 := (h x).1 (by simp)
      have h2 := (h y).2 (by simp)
      rcases List.mem_cons.1 h1 with e | h1
      · exact e
      rcases List.mem_cons.1 h2 with e | h2
      · exact e.symm
      exact absurd (List.lt_trans (ha.1 y h2) (hb.1 x h1)) (List.lt_irrefl _)
    subst e
    congr 1
    refine eq_of_rising ha.2 hb.2 fun z => ?_
    have hz := h z
    simp only [List.mem_cons] at hz
    constructor
    · intro hm
      rcases hz.1 (.inr hm) with rfl | h1
      · exact absurd (ha.1 z hm) (List.lt_irrefl _)
      · exact h1
    · intro hm
      rcases hz.2 (.inr hm) with rfl | h1
      · exact absurd (hb.1 z hm) (List.lt_irrefl _)
      · exact h1
theorem compact_sort (l b : List (List UInt8)) (hb : b.Pairwise (· < ·)) (h : ∀ x, x ∈ l ↔ x ∈ b) : compact (l.mergeSort fun x y => decide (x ≤ y)) = b := by
  have hs : (l.mergeSort fun x y => decide (x ≤ y)).Pairwise (· ≤ ·) := by
    have := List.pairwise_mergeSort (le := fun x y : List UInt8 => decide (x ≤ y)) (fun a b c h1 h2 => by simp at h1 h2 ⊢; exact List.le_trans h1 h2) (fun a b => le_or a b) l
    simpa using this
  obtain ⟨h1, h2⟩ := compact_sorted hs _ (Nat.le_refl _)
  refine eq_of_rising h1 hb fun x => ?_
  unfold compact at *
  rw [h2, ← h, ← List.mem_mergeSort (le := fun x y : List UInt8 => decide (x ≤ y)), List.mem_iff_getElem]
  constructor
  · rintro ⟨j, hj, e⟩; exact ⟨j, hj, by rw [← e, List.getElem!_toArray]; exact (getElem!_pos _ j hj).symm⟩
  · rintro ⟨j, hj, e⟩; exact ⟨j, hj, by rw [← e, List.getElem!_toArray]; exact getElem!_pos _ j hj⟩
end Go.Proofs.YtgnkncfnkjeinaaDoor
namespace Go.Proofs.YtgnkncfnkjeinaaDoor
open Go.RowKit Go.Proofs Go.Sort
set_option maxRecDepth 100000

theorem letters_of {r : Str} (h : isRole r = true) : r ∈ letters := by
  have h1 := role_mem r
  rw [h] at h1
  exact of_decide_eq_true h1
theorem compact_roles {t : Gl} (hg : GGood t) : Lib.compact ((grl t).mergeSort fun x y => decide (x ≤ y)) = grolesOf t := by
  refine compact_sort _ _ (List.Pairwise.filter _ (by decide)) fun x => ?_
  unfold grolesOf
  rw [List.mem_filter]
  constructor
  · intro hx
    have hr := grl_roles t hg x hx
    exact ⟨letters_of hr, (gspk_iff x (isRole_ne hr) t hg).2 hx⟩
  · rintro ⟨hm, hs⟩
    exact (gspk_iff x (fun e => by subst e; revert hm; decide) t hg).1 hs
theorem row_new (w : World) (xs : List Value) (E : TypeId) {j : Nat} {u : Value} (h : xs[j]? = some u) : (w.alloc (.cells xs.toArray E)).cell? ⟨w.heap.size, j, none⟩ = some u := by
  rw [World.cell?_alloc_at _ _ _ _ rfl]
  simpa using h
def FL (t : Gl) (q : Nat) : List Str := (letters.take q).filter fun r => gspk r t
theorem FL_step {t : Gl} {q : Nat} {r : Str} (h : letters[q]? = some r) : FL t (q + 1) = FL t q ++ (if gspk r t then [r] else []) := by
  unfold FL
  rw [List.take_add_one, h, List.filter_append]
  congr 1
  by_cases hh : gspk r t = true <;> simp [hh]
theorem FL_len (t : Gl) (q : Nat) (h : q ≤ 8) : (FL t q).length ≤ 8 := by
  have h1 := List.length_filter_le (fun r => gspk r t) (letters.take q)
  have h2 : (letters.take q).length ≤ q := by rw [List.length_take]; omega
  unfold FL; omega
set_option maxHeartbeats 4000000 in
theorem rolesOf_any (t : Gl) (v : Value) (w : World) (h60 : gparts t ≤ 60) (hv : IsGl w v t) (hg : GGood t) :
    Calls Tryd.prog 35 #[v] w fun e w' => Below w.heap.size w w' ∧ ∃ v', e = .returned v' ∧ w'.ownsRow w.heap.size 9 1 v' (grolesOf t).length (strVals (grolesOf t)) := by
  obtain ⟨lv, kv, rfl, hs1, hs2⟩ := hv
  have HL := Lib.hid hs1
  have HK := Lib.hid hs2
  obtain ⟨A0, p0, rfl, -, -⟩ := hs1
  obtain ⟨A, cap, rfl, -, -⟩ := hs2
  have hans : grolesOf t = FL t 8 := rfl
  rw [hans]
  clear hans
  have HG := Lib.hid hg
  clear hg
  go_enter Tryd.func35, Tryd.ntmps35
  go_wp2_with fail
  obtain ⟨W1, hW1⟩ : ∃ W, w.alloc (.cells #[.int .i64 t.kind, .string ⟨t.frm.toArray⟩, .string ⟨t.rcv.toArray⟩, .int .i64 t.sort, .string ⟨t.name.toArray⟩, .slice A0 t.labels.length p0, .slice A t.kids.length cap] 52) = W := ⟨_, rfl⟩
  have GB1 : GBox W1 w.heap.size t (.slice A0 t.labels.length p0) (.slice A t.kids.length cap) := by subst hW1; exact new_gval w t (.slice A0 t.labels.length p0) (.slice A t.kids.length cap) 52
  have hb1 : Below w.heap.size w W1 := by subst hW1; exact (Below.refl _ _).alloc (Nat.le_refl _) _
  have hs1 : W1.heap.size = w.heap.size + 1 := by subst hW1; simp
  try rw [hW1]
  clear hW1
  obtain ⟨W, hW⟩ : ∃ W, W1.alloc (.cells #[.string ⟨#[97]⟩, .string ⟨#[98]⟩, .string ⟨#[99]⟩, .string ⟨#[100]⟩, .string ⟨#[101]⟩, .string ⟨#[102]⟩, .string ⟨#[103]⟩, .string ⟨#[104]⟩] 9) = W := ⟨_, rfl⟩
  have hb2 : Below W1.heap.size W1 W := by subst hW; exact (Below.refl _ _).alloc (Nat.le_refl _) _
  have GB := GB1.keep hb2 GB1.lt
  have hs2 : W.heap.size = w.heap.size + 2 := by subst hW; simp; omega
  have HROW : Hid (∀ (q : Nat) (r : Str), letters[q]? = some r → W.cell? ⟨w.heap.size + 1, q, none⟩ = some (.string ⟨r.toArray⟩)) := Lib.hid (fun q r hr => by
    subst hW
    rw [← hs1]
    refine row_new W1 (strVals letters) 9 ?_
    rw [strVals, List.getElem?_map, hr]; rfl)
  try rw [hW]
  clear hW GB1
  have hbW := chain hb1 hb2
  clear hb1 hb2
  clear hs1
  clear W1
  go_loopw [3, 8] (fun lv i wr => ∃ q : Nat, q ≤ 8 ∧ i = .int .i64 q ∧ wr.ownsRow (w.heap.size + 2) 9 1 lv (FL t q).length (strVals (FL t q)) ∧ Below (w.heap.size + 2) W wr) (fun _ i _ => 8 - (intOf i).toNat)
  case atStart => exact ⟨0, by omega, rfl, World.ownsRow_nil _ _ _ _, Below.refl _ _⟩
  case round =>
    obtain ⟨q, hq, rfl, hown, hbN⟩ := hrel
    have hbr : Below W.heap.size W wr := by rw [hs2]; exact hbN
    have hNr := hbr.size
    rw [hs2] at hNr
    obtain ⟨Av, capv, rfl⟩ := own_form hown
    have hfl := FL_len t q hq
    by_cases hlt : q < 8
    · obtain ⟨r, hr⟩ : ∃ x, letters[q]? = some x := ⟨_, List.getElem?_eq_getElem hlt⟩
      have hcell := cell_keep (HROW.out q r hr) hbr
      have hst := FL_step (t := t) hr
      obtain ⟨RQ, hRQ⟩ : ∃ x, FL t q = x := ⟨_, rfl⟩
      rw [hRQ] at hown hfl hst ⊢
      have HST := Lib.hid hst
      clear hst hRQ hr
      obtain ⟨g0, g1, g2, g3, g4, g5, g6, g7, g8⟩ := GB.keep hbr GB.lt
      have hcall := speaks_any r 60 t (.agg #[.int .i64 t.kind, .string ⟨t.frm.toArray⟩, .string ⟨t.rcv.toArray⟩, .int .i64 t.sort, .string ⟨t.name.toArray⟩, .slice A0 t.labels.length p0, .slice A t.kids.length cap]) wr h60 h60 (glV_of ((HL.out.below hbW).below hbr) ((HK.out.below hbW).below hbr)) HG.out
      unfold PSays at hcall
      cases hsp : gspk r t with
      | false =>
        rw [hsp] at hcall
        have e3 : Hid (FL t (q + 1) = RQ) := Lib.hid (by rw [HST.out, hsp]; simp)
        have HCL := Lib.hid hcall
        clear hcall hsp
        go_wp2_with fail
        refine HCL.out.mono ?_
        rintro e w1 ⟨rfl, hq1⟩
        have own1 := own_keep hown hq1 (Nat.le_refl _)
        have hb3 := hbN.trans (hq1.mono hNr)
        clear g0 g1 g2 g3 g4 g5 g6 g7 g8 hcell hown
        go_wp2_with fail
        go_roundw
        case rel => exact ⟨q + 1, by omega, by go_num, by rw [e3.out]; exact own1, hb3⟩
        case measure => simp [intOf]; omega
      | true =>
        rw [hsp] at hcall
        have e3 : Hid (FL t (q + 1) = RQ ++ [r]) := Lib.hid (by rw [HST.out, hsp]; simp)
        have HCL := Lib.hid hcall
        clear hcall hsp
        go_wp2_with fail
        refine HCL.out.mono ?_
        rintro e w1 ⟨rfl, hq1⟩
        have own1 := own_keep hown hq1 (Nat.le_refl _)
        have hs1 := hq1.size
        clear g0 g1 g2 g3 g4 g5 g6 g7 g8 hcell hown
        go_wp2_with (at_builtin; go_must (refine wpList_app rt_strs rfl (.tmp 15) (.tmp 17) rfl (w.heap.size + 2) _ _ _ rfl (own1.alloc _) ⟨w1.heap.size, 0, none⟩ 1 1 [.string ⟨r.toArray⟩] rfl rfl (cell_one_new _ _ _) (by simp [Value.oneCell']) (by unfold maxLen; omega) (by omega) (by rw [World.size_alloc]; omega) ?_; intro v3 w3 n1 n2 n3 n4))
        have own3 : w3.ownsRow (w.heap.size + 2) 9 1 v3 (FL t (q + 1)).length (strVals (FL t (q + 1))) := by
          rw [e3.out, List.length_append]
          show w3.ownsRow _ _ _ _ _ (List.map _ (RQ ++ [r]))
          rw [List.map_append]
          exact n1
        have hb3 := hbN.trans (((hq1.mono hNr).alloc (by omega) _).trans n4)
        clear n1 n2 n3 n4 own1
        go_roundw
        case rel => exact ⟨q + 1, by omega, by go_num, own3, hb3⟩
        case measure => simp [intOf]; omega
    · have hkL : q = 8 := by omega
      subst hkL
      clear hlt
      go_wp2_with fail
      go_ret
      exact ⟨chain hbW hbr, _, rfl, own_mono hown (by omega)⟩

theorem sorted_own {w1 : World} {base g cap nn : Nat} {E : TypeId} {os : Array Obj} {ss : List Str} (h : w1.ownsRow base E 1 (.slice (some ⟨g, 0, none⟩) ss.length cap) ss.length (strVals ss)) :
    (Sort.grow (Sort.putRow encStr (Sort.ahead w1 nn) g 0 (ss.mergeSort fun x y => decide (x ≤ y)).toArray) os).ownsRow base E 1 (.slice (some ⟨g, 0, none⟩) (ss.mergeSort fun x y => decide (x ≤ y)).length cap) (ss.mergeSort fun x y => decide (x ≤ y)).length ((ss.mergeSort fun x y => decide (x ≤ y)).map encStr) ∧ base ≤ g ∧ g < w1.heap.size ∧ ss.length ≤ cap ∧ cap ≤ maxLen := by
  have hl2 : (ss.mergeSort fun x y => decide (x ≤ y)).length = ss.length := List.length_mergeSort ss
  have hg := (h.lt g rfl).2
  rcases h.2 with ⟨h0, _⟩ | ⟨g', cap', cur, hv, hbase, hb, h1, h2, h3, h4⟩
  · cases h0
  cases hv
  have hs := ownsRow_sorted (n := nn) (os := os) (ts := ss.mergeSort fun x y => decide (x ≤ y)) hl2 hbase hb h1 h2 h3
  exact ⟨by rw [hl2]; exact hs, hbase, hg, h1, h2⟩
end Go.Proofs.YtgnkncfnkjeinaaDoor
