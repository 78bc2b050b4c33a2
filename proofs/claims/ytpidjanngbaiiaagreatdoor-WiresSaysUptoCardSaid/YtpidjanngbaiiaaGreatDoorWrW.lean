/-
  wires.Write: what is written of events.
-/
import Derived.Test.YtpidjanngbaiiaaGreatDoorM8
import Derived.Test.YtpidjanngbaiiaaGreatDoorM19
import Derived.Test.YtpidjanngbaiiaaGreatDoorM9
namespace Go.Proofs.YtpidjanngbaiiaaGreatDoor
open Go.RowKit Go.Proofs

set_option maxRecDepth 100000
def errOf (e : Ev) : Int := wchk (tyErr e.ty) (isName e.label) e
def wireOf (e : Ev) : Str := wireE (txt e.ty) e
def firstErr : List Ev → Int
 | [] => 0
 | e :: r => if errOf e ≠ 0 then errOf e else firstErr r
def wiresErr (l : List Ev) : Int := if 200 < l.length then 2 else firstErr l
def wireAll (l : List Ev) : Str := l.flatMap wireOf
theorem firstErr_at {l : List Ev} {j : Nat} {e : Ev} (h : l[j]? = some e) : firstErr (l.drop j) = if errOf e ≠ 0 then errOf e else firstErr (l.drop (j + 1)) := by
 obtain ⟨h1, h2⟩ := List.getElem?_eq_some_iff.1 h
 rw [List.drop_eq_getElem_cons h1, h2]
 rfl
theorem wireAll_at {l : List Ev} {j : Nat} {e : Ev} (h : l[j]? = some e) : wireAll (l.take (j + 1)) = wireAll (l.take j) ++ wireOf e := by
 unfold wireAll
 rw [List.take_add_one, h]
 simp
inductive EvOk : Ev → Prop where
 | num (k vn : Int) (vt : Str) (ty : Ty) (lb : Str) (hk : k = 2 ∨ k = 3) : EvOk ⟨k, 1, vn, vt, ty, lb⟩
 | bool (k vn : Int) (vt : Str) (ty : Ty) (lb : Str) (hk : k = 2 ∨ k = 3) (hn : vn = 0 ∨ vn = 1) : EvOk ⟨k, 2, vn, vt, ty, lb⟩
 | text (k : Int) (vt : Str) (ty : Ty) (lb : Str) (hk : k = 2 ∨ k = 3) (ht : vt.length ≤ 100) : EvOk ⟨k, 3, 0, vt, ty, lb⟩
 | type (k vs vn : Int) (vt : Str) (ty : Ty) (lb : Str) (hk : k = 4 ∨ k = 5) (ht : tyErr ty = 0) : EvOk ⟨k, vs, vn, vt, ty, lb⟩
 | label (k vs vn : Int) (vt : Str) (ty : Ty) (lb : Str) (hk : k = 6 ∨ k = 7) (hl : lb.length ≤ 8) : EvOk ⟨k, vs, vn, vt, ty, lb⟩
theorem evOk_of {e : Ev} (h : errOf e = 0) : EvOk e := by
 obtain ⟨k, vs, vn, vt, ty, lb⟩ := e
 unfold errOf wchk at h
 simp only at h
 split at h
 ·rename_i hk
  unfold vchk at h
  split at h
  ·rename_i h3
   obtain ⟨rfl, rfl⟩ := h3
   split at h
   ·omega
   ·exact .text k vt ty lb hk (by omega)
  ·split at h
   ·rename_i h4
    rcases h4.2 with rfl | ⟨rfl, hn⟩
    ·exact .num k vn vt ty lb hk
    ·exact .bool k vn vt ty lb hk hn
   ·omega
 ·split at h
  ·exact .type k vs vn vt ty lb (by assumption) h
  ·split at h
   ·rename_i h6
    exact .label k vs vn vt ty lb h6.1 (isName_len h6.2).2
   ·omega
section
variable (vs vn : Int) (vt : Str) (ty : Ty) (lb : Str)
theorem wo_num2 : wireOf ⟨2, 1, vn, vt, ty, lb⟩ = [2] ++ ([1] ++ gnum (zig vn)) := by simp [wireOf, wireE, wireB, byteOf]
theorem wo_num3 : wireOf ⟨3, 1, vn, vt, ty, lb⟩ = [3] ++ ([1] ++ gnum (zig vn)) := by simp [wireOf, wireE, wireB, byteOf]
theorem wo_bool2_0 : wireOf ⟨2, 2, 0, vt, ty, lb⟩ = [2] ++ ([2] ++ [0]) := by simp [wireOf, wireE, wireB, byteOf]
theorem wo_bool2_1 : wireOf ⟨2, 2, 1, vt, ty, lb⟩ = [2] ++ ([2] ++ [1]) := by simp [wireOf, wireE, wireB, byteOf]
theorem wo_bool3_0 : wireOf ⟨3, 2, 0, vt, ty, lb⟩ = [3] ++ ([2] ++ [0]) := by simp [wireOf, wireE, wireB, byteOf]
theorem wo_bool3_1 : wireOf ⟨3, 2, 1, vt, ty, lb⟩ = [3] ++ ([2] ++ [1]) := by simp [wireOf, wireE, wireB, byteOf]
theorem wo_text2 : wireOf ⟨2, 3, 0, vt, ty, lb⟩ = [2] ++ ([3] ++ gtext vt) := by simp [wireOf, wireE, wireB, byteOf]
theorem wo_text3 : wireOf ⟨3, 3, 0, vt, ty, lb⟩ = [3] ++ ([3] ++ gtext vt) := by simp [wireOf, wireE, wireB, byteOf]
theorem wo_type4 : wireOf ⟨4, vs, vn, vt, ty, lb⟩ = [4] ++ gtext (txt ty) := by simp [wireOf, wireE, wireB, byteOf]
theorem wo_type5 : wireOf ⟨5, vs, vn, vt, ty, lb⟩ = [5] ++ gtext (txt ty) := by simp [wireOf, wireE, wireB, byteOf]
theorem wo_label6 : wireOf ⟨6, vs, vn, vt, ty, lb⟩ = [6] ++ gtext lb := by simp [wireOf, wireE, wireB, byteOf]
theorem wo_label7 : wireOf ⟨7, vs, vn, vt, ty, lb⟩ = [7] ++ gtext lb := by simp [wireOf, wireE, wireB, byteOf]
end
theorem gtext_len {s : Str} (h : s.length ≤ 1048576) : (gtext s).length ≤ 10 + s.length := by
 have := gnum_len10 (show s.length < 18446744073709551616 by omega)
 unfold gtext
 rw [List.length_append]
 omega
theorem wireOf_len {e : Ev} (h : EvOk e) (hf : EvFit e) : (wireOf e).length ≤ 7000 := by
 cases h with
 | num k vn vt ty lb hk =>
  have h1 := gnum_len10 (zig_lt hf.n1 hf.n2)
  simp only at h1
  simp only [wireOf, wireE, wireB, if_pos hk]
  simp
  omega
 | bool k vn vt ty lb hk hn =>
  simp only [wireOf, wireE, wireB, if_pos hk]
  simp
 | text k vt ty lb hk ht =>
  have h1 := gtext_len (s := vt) (by omega)
  simp only [wireOf, wireE, wireB, if_pos hk]
  simp
  omega
 | type k vs vn vt ty lb hk ht =>
  have hp := parts_ok ht
  have h2 := txt_len ty (good_of_chk ty [] 60 ht)
  have h1 := gtext_len (s := txt ty) (by omega)
  have hn : ¬ (k = 2 ∨ k = 3) := by omega
  simp only [wireOf, wireE, wireB, if_pos hk, if_neg hn]
  simp
  omega
 | label k vs vn vt ty lb hk hl =>
  have h1 := gtext_len (s := lb) (by omega)
  have hn : ¬ (k = 2 ∨ k = 3) := by omega
  have hn2 : ¬ (k = 4 ∨ k = 5) := by omega
  simp only [wireOf, wireE, wireB, if_neg hn, if_neg hn2]
  simp
  omega
theorem wbox_app {w w' : World} {q : Nat} {e : Ev} {lv kv u : Value} {E : TypeId} {row : Option Nat} (h : EvCells w q 0 e lv kv) (hg : (w.alloc (.cells #[u] E)).grownBy w' row) (hq : row ≠ some q) : EvCells w' q 0 e lv kv := by
 have h1 := h.keep ((Below.refl w.heap.size w).alloc (Nat.le_refl _) (.cells #[u] E))
 exact h1.same (D := fun b => b = q) (Same.grown hg fun b hb e => hq (by rw [← e, hb])) rfl
theorem byteRow_one {w : World} {base : Nat} {v : Value} {l : Str} {K : UInt8} {z : Int} (h : w.ownsRow base 5 1 v (l.length + 1) (Lib.byteCells l ++ [.int .u8 z])) (hz : z = (K.toNat : Int)) : ByteRow w base v (l ++ [K]) := by
 subst hz
 exact byteRow_app h
theorem wrow_other {w : World} {v v' : Value} {q : Nat} (h : v.ownBlock ≠ some q) (hq : q < w.heap.size) (ho : v'.ownBlock = v.ownBlock ∨ v'.ownBlock = some (w.heap.size + 1)) : v'.ownBlock ≠ some q := by
 rcases ho with ho | ho
 ·rw [ho]; exact h
 ·rw [ho]
  intro e
  injection e with e
  omega
set_option maxHeartbeats 40000000 in
theorem wWrite_any (l : List Ev) (v : Value) (w : World) (hv : EvsD All w v l) (hf : ∀ e ∈ l, EvFit e) (hlen : l.length ≤ 1048576) (hT : Tabs w) (hS : Sorts w) :
  Calls Tryz.prog 8 #[v] w fun r w' => r = .returned (.tuple #[.string ⟨(if wiresErr l = 0 then wireAll l else []).toArray⟩, .int .i64 (wiresErr l)]) ∧ Below w.heap.size w w' := by
 have HVS := Lib.hid hv
 obtain ⟨A, cap, rfl, -, -, -⟩ := hv
 obtain ⟨L, hL⟩ : ∃ L, l.length = L := ⟨_, rfl⟩
 have HL := Lib.hid hL
 obtain ⟨RE, hRE⟩ : ∃ R, wiresErr l = R := ⟨_, rfl⟩
 have HRE := Lib.hid hRE
 rw [hRE]
 rw [hL] at HVS hlen ⊢
 by_cases h200 : 200 < L
 ·have hz : (200 : Int) < (L : Int) := by omega
  have hr : RE = 2 := by rw [← hRE]; unfold wiresErr; rw [hL, if_pos h200]
  subst hr
  clear hL hRE
  go_enter Tryz.func8, Tryz.ntmps8
  go_wp2_with fail
  go_ret2
  exact ⟨rfl, Below.refl _ _⟩
 ·have hz : ¬ (200 : Int) < (L : Int) := by omega
  have hr : firstErr l = RE := by rw [← hRE]; unfold wiresErr; rw [hL, if_neg h200]
  have HR := Lib.hid hr
  obtain ⟨TXT, hTXT⟩ : ∃ T, (if RE = 0 then wireAll l else []) = T := ⟨_, rfl⟩
  have HTXT := Lib.hid hTXT
  rw [hTXT]
  clear hL hRE hr hTXT
  go_enter Tryz.func8, Tryz.ntmps8
  go_wp2_with fail
  go_loopw [4, 15] (fun ov iv wr => ∃ (j : Nat) (out : Str), j ≤ L ∧ iv = .int .i64 j ∧ Hid (firstErr (l.drop j) = RE) ∧ Hid (wireAll (l.take j) = out) ∧ out.length ≤ j * 7000 ∧ ByteRow wr w.heap.size ov out ∧ Below w.heap.size w wr) (fun _ iv _ => L - (intOf iv).toNat)
  case atStart => exact ⟨0, [], Nat.zero_le _, rfl, HR, rfl, Nat.zero_le _, byteRow_nil _ _, Below.refl _ _⟩
  case round =>
   obtain ⟨j, out, hj, rfl, hfe, hout, hol, hown, hb⟩ := hrel
   obtain ⟨A3, c3, rfl⟩ := own_form hown
   by_cases hlt : j < L
   ·have hltr : j < l.length := by rw [HL.out]; exact hlt
    obtain ⟨e, he⟩ : ∃ e, l[j]? = some e := ⟨_, List.getElem?_eq_getElem hltr⟩
    have hef := hf e (mem_of_at he)
    obtain ⟨bb, off, lv, kv, rfl, -, hc0, hin0⟩ := HVS.out.at he
    have hc := hc0.keep hb
    have hin := hin0.below hb
    obtain ⟨e0, e1, e2, e3, e4, e5, e6, e7, e8, e9⟩ := hc
    have hfat := firstErr_at he
    have hwat := wireAll_at he
    rw [hfe.out] at hfat
    rw [hout.out] at hwat
    have hck := fun (W : World) (hin : EvIn All W e lv kv) (hT : Tabs W) => wcheck_any e _ W ⟨_, _, rfl, hin⟩ hef hT
    have hck' : ∀ (W : World), EvIn All W e lv kv → Tabs W → Calls Tryz.prog 29 #[evAgg e lv kv] W fun r w' => r = .returned (.int .i64 (errOf e)) ∧ Below W.heap.size W w' := hck
    have HCK0 := Lib.hid hck'
    have HWA := Lib.hid hwat
    have HIN := Lib.hid hin0
    obtain ⟨A1, c1, A2, c2, rfl, rfl⟩ := hin.forms
    have HEF := Lib.hid hef
    have hnew := Lib.hid (evCells_new wr e (.slice A1 e.ty.labels.length c1) (.slice A2 e.ty.kids.length c2))
    have hqo : (Value.slice A3 out.length c3).ownBlock ≠ some wr.heap.size := fun e' => by have := (hown.lt _ e').2; omega
    have hszr := hb.size
    clear hck hck' hwat he hin hin0 hc0 hef hfe hout
    by_cases h0 : errOf e = 0
    ·have hok := evOk_of h0
     rw [if_neg (fun h => h h0)] at hfat
     have hnx := Lib.hid hfat.symm
     rw [h0] at HCK0
     have hlw := Lib.hid (wireOf_len hok HEF.out)
     clear h0 hfat
     cases hok with
     | num k vn vt ty lb hk =>
      dsimp only at e0 e1 e2 e3 e4 e5 e6 e7 e8 e9 HCK0 HIN hnew
      rcases hk with rfl | rfl
      ·go_wp2_with fail
       have B0 : Below wr.heap.size wr (wr.alloc (.cells (evCells (⟨2, 1, vn, vt, ty, lb⟩ : Ev) (.slice A1 ty.labels.length c1) (.slice A2 ty.kids.length c2)) 32)) := by go_grown
       generalize wr.alloc (.cells (evCells (⟨2, 1, vn, vt, ty, lb⟩ : Ev) (.slice A1 ty.labels.length c1) (.slice A2 ty.kids.length c2)) 32) = W at hnew B0 ⊢
       refine (HCK0.out _ (HIN.out.below (chain hb B0)) (hT.below (chain hb B0))).mono ?_
       rintro r w1 ⟨rfl, hb1⟩
       have hbw := chain (chain hb B0) hb1
       have hx1 := hnew.out.keep hb1
       have hown1 := own_keep hown (chain B0 hb1) (Nat.le_refl _)
       have hs1 := hbw.size
       obtain ⟨b0, b1, b2, b3, b4, b5, b6, b7, b8, b9⟩ := hx1.box
       go_wp2_with (first | (at_builtin; (refine wpList_app1 rt_bytes w1 (.int .u8 2) rfl (.tmp 24) (.tmp 28) rfl w.heap.size (.slice A3 out.length c3) out.length (Lib.byteCells out) rfl hown1 rfl rfl (by simp; omega) (by simp; omega) hs1 ?_; intro v3 w3 o1 o2 o3 o4; have hx3 := wbox_app hx1 o2 hqo; have hq3 : v3.ownBlock ≠ some wr.heap.size := wrow_other hqo hx1.lt o3; have hown3 : ByteRow w3 w.heap.size v3 (out ++ [2]) := byteRow_one o1 rfl; have hs3 := Nat.le_trans hs1 o4.size; have hbw3 : Below w.heap.size w w3 := hbw.trans o4; obtain ⟨AA3, cc3, rfl⟩ := own_form o1; (try simp only [List.length_append, List.length_singleton] at hown3); (try simp only [List.length_append, List.length_singleton] at hq3); clear o1 o2 o3 o4 b0 b1 b2 b3 b4 b5 b6 b7 b8 b9; obtain ⟨b0, b1, b2, b3, b4, b5, b6, b7, b8, b9⟩ := hx3.box)) | (at_builtin; (refine wpList_app1 rt_bytes w3 (.int .u8 1) rfl (.tmp 39) (.tmp 44) rfl w.heap.size (.slice AA3 (out.length + 1) cc3) (out ++ [2]).length (Lib.byteCells (out ++ [2])) rfl hown3 rfl rfl (by simp; omega) (by simp; omega) hs3 ?_; intro v4 w4 o1 o2 o3 o4; have hx4 := wbox_app hx3 o2 hq3; have hq4 : v4.ownBlock ≠ some wr.heap.size := wrow_other hq3 hx3.lt o3; have hown4 : ByteRow w4 w.heap.size v4 ((out ++ [2]) ++ [1]) := byteRow_one o1 rfl; have hs4 := Nat.le_trans hs3 o4.size; have hbw4 : Below w.heap.size w w4 := hbw3.trans o4; obtain ⟨AA4, cc4, rfl⟩ := own_form o1; (try simp only [List.length_append, List.length_singleton] at hown4); (try simp only [List.length_append, List.length_singleton] at hq4); clear o1 o2 o3 o4 b0 b1 b2 b3 b4 b5 b6 b7 b8 b9; obtain ⟨b0, b1, b2, b3, b4, b5, b6, b7, b8, b9⟩ := hx4.box)))
       have hvn1 := HEF.out.n1
       have hvn2 := HEF.out.n2
       simp only at hvn1 hvn2
       have hY : vn / 9223372036854775808 = if 0 ≤ vn then 0 else -1 := by split <;> omega
       have hX : wrap64 (vn * 2) % 18446744073709551616 = (2 * vn) % 18446744073709551616 := by unfold wrap64; omega
       rw [zig_bits vn hvn1 hvn2 _ hX _ hY]
       refine (wnumber_any w.heap.size _ (out ++ [2] ++ [1]) (zig vn) w4 hown4 (zig_lt hvn1 hvn2) (by simp; omega) hs4).mono ?_
       rintro r w9 ⟨⟨v9, rfl, hown9⟩, hb9⟩
       clear hX hY hvn1 hvn2
       have hwo : wireOf (⟨2, 1, vn, vt, ty, lb⟩ : Ev) = [2] ++ ([1] ++ gnum (zig vn)) := wo_num2 vn vt ty lb
       have hrow := hown9
       rw [show out ++ [2] ++ [1] ++ gnum (zig vn) = out ++ wireOf (⟨2, 1, vn, vt, ty, lb⟩ : Ev) by rw [hwo]; simp] at hrow
       have hlen : (out ++ wireOf (⟨2, 1, vn, vt, ty, lb⟩ : Ev)).length ≤ (j + 1) * 7000 := by rw [List.length_append]; have := hlw.out; omega
       go_wp2_with fail
       go_roundw
       case rel => exact ⟨j + 1, out ++ wireOf (⟨2, 1, vn, vt, ty, lb⟩ : Ev), by omega, by go_num, hnx, HWA, hlen, hrow, hbw4.trans hb9⟩
       case measure => simp [intOf] <;> omega

      ·go_wp2_with fail
       have B0 : Below wr.heap.size wr (wr.alloc (.cells (evCells (⟨3, 1, vn, vt, ty, lb⟩ : Ev) (.slice A1 ty.labels.length c1) (.slice A2 ty.kids.length c2)) 32)) := by go_grown
       generalize wr.alloc (.cells (evCells (⟨3, 1, vn, vt, ty, lb⟩ : Ev) (.slice A1 ty.labels.length c1) (.slice A2 ty.kids.length c2)) 32) = W at hnew B0 ⊢
       refine (HCK0.out _ (HIN.out.below (chain hb B0)) (hT.below (chain hb B0))).mono ?_
       rintro r w1 ⟨rfl, hb1⟩
       have hbw := chain (chain hb B0) hb1
       have hx1 := hnew.out.keep hb1
       have hown1 := own_keep hown (chain B0 hb1) (Nat.le_refl _)
       have hs1 := hbw.size
       obtain ⟨b0, b1, b2, b3, b4, b5, b6, b7, b8, b9⟩ := hx1.box
       go_wp2_with (first | (at_builtin; (refine wpList_app1 rt_bytes w1 (.int .u8 3) rfl (.tmp 24) (.tmp 28) rfl w.heap.size (.slice A3 out.length c3) out.length (Lib.byteCells out) rfl hown1 rfl rfl (by simp; omega) (by simp; omega) hs1 ?_; intro v3 w3 o1 o2 o3 o4; have hx3 := wbox_app hx1 o2 hqo; have hq3 : v3.ownBlock ≠ some wr.heap.size := wrow_other hqo hx1.lt o3; have hown3 : ByteRow w3 w.heap.size v3 (out ++ [3]) := byteRow_one o1 rfl; have hs3 := Nat.le_trans hs1 o4.size; have hbw3 : Below w.heap.size w w3 := hbw.trans o4; obtain ⟨AA3, cc3, rfl⟩ := own_form o1; (try simp only [List.length_append, List.length_singleton] at hown3); (try simp only [List.length_append, List.length_singleton] at hq3); clear o1 o2 o3 o4 b0 b1 b2 b3 b4 b5 b6 b7 b8 b9; obtain ⟨b0, b1, b2, b3, b4, b5, b6, b7, b8, b9⟩ := hx3.box)) | (at_builtin; (refine wpList_app1 rt_bytes w3 (.int .u8 1) rfl (.tmp 39) (.tmp 44) rfl w.heap.size (.slice AA3 (out.length + 1) cc3) (out ++ [3]).length (Lib.byteCells (out ++ [3])) rfl hown3 rfl rfl (by simp; omega) (by simp; omega) hs3 ?_; intro v4 w4 o1 o2 o3 o4; have hx4 := wbox_app hx3 o2 hq3; have hq4 : v4.ownBlock ≠ some wr.heap.size := wrow_other hq3 hx3.lt o3; have hown4 : ByteRow w4 w.heap.size v4 ((out ++ [3]) ++ [1]) := byteRow_one o1 rfl; have hs4 := Nat.le_trans hs3 o4.size; have hbw4 : Below w.heap.size w w4 := hbw3.trans o4; obtain ⟨AA4, cc4, rfl⟩ := own_form o1; (try simp only [List.length_append, List.length_singleton] at hown4); (try simp only [List.length_append, List.length_singleton] at hq4); clear o1 o2 o3 o4 b0 b1 b2 b3 b4 b5 b6 b7 b8 b9; obtain ⟨b0, b1, b2, b3, b4, b5, b6, b7, b8, b9⟩ := hx4.box)))
       have hvn1 := HEF.out.n1
       have hvn2 := HEF.out.n2
       simp only at hvn1 hvn2
       have hY : vn / 9223372036854775808 = if 0 ≤ vn then 0 else -1 := by split <;> omega
       have hX : wrap64 (vn * 2) % 18446744073709551616 = (2 * vn) % 18446744073709551616 := by unfold wrap64; omega
       rw [zig_bits vn hvn1 hvn2 _ hX _ hY]
       refine (wnumber_any w.heap.size _ (out ++ [3] ++ [1]) (zig vn) w4 hown4 (zig_lt hvn1 hvn2) (by simp; omega) hs4).mono ?_
       rintro r w9 ⟨⟨v9, rfl, hown9⟩, hb9⟩
       clear hX hY hvn1 hvn2
       have hwo : wireOf (⟨3, 1, vn, vt, ty, lb⟩ : Ev) = [3] ++ ([1] ++ gnum (zig vn)) := wo_num3 vn vt ty lb
       have hrow := hown9
       rw [show out ++ [3] ++ [1] ++ gnum (zig vn) = out ++ wireOf (⟨3, 1, vn, vt, ty, lb⟩ : Ev) by rw [hwo]; simp] at hrow
       have hlen : (out ++ wireOf (⟨3, 1, vn, vt, ty, lb⟩ : Ev)).length ≤ (j + 1) * 7000 := by rw [List.length_append]; have := hlw.out; omega
       go_wp2_with fail
       go_roundw
       case rel => exact ⟨j + 1, out ++ wireOf (⟨3, 1, vn, vt, ty, lb⟩ : Ev), by omega, by go_num, hnx, HWA, hlen, hrow, hbw4.trans hb9⟩
       case measure => simp [intOf] <;> omega

     | bool k vn vt ty lb hk hn =>
      dsimp only at e0 e1 e2 e3 e4 e5 e6 e7 e8 e9 HCK0 HIN hnew
      rcases hk with rfl | rfl <;> rcases hn with rfl | rfl
      ·go_wp2_with fail
       have B0 : Below wr.heap.size wr (wr.alloc (.cells (evCells (⟨2, 2, 0, vt, ty, lb⟩ : Ev) (.slice A1 ty.labels.length c1) (.slice A2 ty.kids.length c2)) 32)) := by go_grown
       generalize wr.alloc (.cells (evCells (⟨2, 2, 0, vt, ty, lb⟩ : Ev) (.slice A1 ty.labels.length c1) (.slice A2 ty.kids.length c2)) 32) = W at hnew B0 ⊢
       refine (HCK0.out _ (HIN.out.below (chain hb B0)) (hT.below (chain hb B0))).mono ?_
       rintro r w1 ⟨rfl, hb1⟩
       have hbw := chain (chain hb B0) hb1
       have hx1 := hnew.out.keep hb1
       have hown1 := own_keep hown (chain B0 hb1) (Nat.le_refl _)
       have hs1 := hbw.size
       obtain ⟨b0, b1, b2, b3, b4, b5, b6, b7, b8, b9⟩ := hx1.box
       go_wp2_with (first | (at_builtin; (refine wpList_app1 rt_bytes w1 (.int .u8 2) rfl (.tmp 24) (.tmp 28) rfl w.heap.size (.slice A3 out.length c3) out.length (Lib.byteCells out) rfl hown1 rfl rfl (by simp; omega) (by simp; omega) hs1 ?_; intro v3 w3 o1 o2 o3 o4; have hx3 := wbox_app hx1 o2 hqo; have hq3 : v3.ownBlock ≠ some wr.heap.size := wrow_other hqo hx1.lt o3; have hown3 : ByteRow w3 w.heap.size v3 (out ++ [2]) := byteRow_one o1 rfl; have hs3 := Nat.le_trans hs1 o4.size; have hbw3 : Below w.heap.size w w3 := hbw.trans o4; obtain ⟨AA3, cc3, rfl⟩ := own_form o1; (try simp only [List.length_append, List.length_singleton] at hown3); (try simp only [List.length_append, List.length_singleton] at hq3); clear o1 o2 o3 o4 b0 b1 b2 b3 b4 b5 b6 b7 b8 b9; obtain ⟨b0, b1, b2, b3, b4, b5, b6, b7, b8, b9⟩ := hx3.box)) | (at_builtin; (refine wpList_app1 rt_bytes w3 (.int .u8 2) rfl (.tmp 39) (.tmp 44) rfl w.heap.size (.slice AA3 (out.length + 1) cc3) (out ++ [2]).length (Lib.byteCells (out ++ [2])) rfl hown3 rfl rfl (by simp; omega) (by simp; omega) hs3 ?_; intro v4 w4 o1 o2 o3 o4; have hx4 := wbox_app hx3 o2 hq3; have hq4 : v4.ownBlock ≠ some wr.heap.size := wrow_other hq3 hx3.lt o3; have hown4 : ByteRow w4 w.heap.size v4 ((out ++ [2]) ++ [2]) := byteRow_one o1 rfl; have hs4 := Nat.le_trans hs3 o4.size; have hbw4 : Below w.heap.size w w4 := hbw3.trans o4; obtain ⟨AA4, cc4, rfl⟩ := own_form o1; (try simp only [List.length_append, List.length_singleton] at hown4); (try simp only [List.length_append, List.length_singleton] at hq4); clear o1 o2 o3 o4 b0 b1 b2 b3 b4 b5 b6 b7 b8 b9; obtain ⟨b0, b1, b2, b3, b4, b5, b6, b7, b8, b9⟩ := hx4.box)) | (at_builtin; (refine wpList_app1 rt_bytes w4 (.int .u8 0) rfl (.tmp 70) (.tmp 75) rfl w.heap.size (.slice AA4 (out.length + 1 + 1) cc4) (out ++ [2] ++ [2]).length (Lib.byteCells (out ++ [2] ++ [2])) rfl hown4 rfl rfl (by simp; omega) (by simp; omega) hs4 ?_; intro v5 w5 o1 o2 o3 o4; have hx5 := wbox_app hx4 o2 hq4; have hq5 : v5.ownBlock ≠ some wr.heap.size := wrow_other hq4 hx4.lt o3; have hown5 : ByteRow w5 w.heap.size v5 ((out ++ [2] ++ [2]) ++ [0]) := byteRow_one o1 rfl; have hs5 := Nat.le_trans hs4 o4.size; have hbw5 : Below w.heap.size w w5 := hbw4.trans o4; obtain ⟨AA5, cc5, rfl⟩ := own_form o1; (try simp only [List.length_append, List.length_singleton] at hown5); (try simp only [List.length_append, List.length_singleton] at hq5); clear o1 o2 o3 o4 b0 b1 b2 b3 b4 b5 b6 b7 b8 b9; obtain ⟨b0, b1, b2, b3, b4, b5, b6, b7, b8, b9⟩ := hx5.box)))
       have hwo : wireOf (⟨2, 2, 0, vt, ty, lb⟩ : Ev) = [2] ++ ([2] ++ [0]) := wo_bool2_0 vt ty lb
       have hrow := hown5
       rw [show out ++ [2] ++ [2] ++ [0] = out ++ wireOf (⟨2, 2, 0, vt, ty, lb⟩ : Ev) by rw [hwo]; simp] at hrow
       have hlen : (out ++ wireOf (⟨2, 2, 0, vt, ty, lb⟩ : Ev)).length ≤ (j + 1) * 7000 := by rw [List.length_append]; have := hlw.out; omega
       refine ⟨⟨j + 1, out ++ wireOf (⟨2, 2, 0, vt, ty, lb⟩ : Ev), by omega, by go_num, hnx, HWA, hlen, hrow, hbw5⟩, ?_⟩
       simp [intOf] <;> omega

      ·go_wp2_with fail
       have B0 : Below wr.heap.size wr (wr.alloc (.cells (evCells (⟨2, 2, 1, vt, ty, lb⟩ : Ev) (.slice A1 ty.labels.length c1) (.slice A2 ty.kids.length c2)) 32)) := by go_grown
       generalize wr.alloc (.cells (evCells (⟨2, 2, 1, vt, ty, lb⟩ : Ev) (.slice A1 ty.labels.length c1) (.slice A2 ty.kids.length c2)) 32) = W at hnew B0 ⊢
       refine (HCK0.out _ (HIN.out.below (chain hb B0)) (hT.below (chain hb B0))).mono ?_
       rintro r w1 ⟨rfl, hb1⟩
       have hbw := chain (chain hb B0) hb1
       have hx1 := hnew.out.keep hb1
       have hown1 := own_keep hown (chain B0 hb1) (Nat.le_refl _)
       have hs1 := hbw.size
       obtain ⟨b0, b1, b2, b3, b4, b5, b6, b7, b8, b9⟩ := hx1.box
       go_wp2_with (first | (at_builtin; (refine wpList_app1 rt_bytes w1 (.int .u8 2) rfl (.tmp 24) (.tmp 28) rfl w.heap.size (.slice A3 out.length c3) out.length (Lib.byteCells out) rfl hown1 rfl rfl (by simp; omega) (by simp; omega) hs1 ?_; intro v3 w3 o1 o2 o3 o4; have hx3 := wbox_app hx1 o2 hqo; have hq3 : v3.ownBlock ≠ some wr.heap.size := wrow_other hqo hx1.lt o3; have hown3 : ByteRow w3 w.heap.size v3 (out ++ [2]) := byteRow_one o1 rfl; have hs3 := Nat.le_trans hs1 o4.size; have hbw3 : Below w.heap.size w w3 := hbw.trans o4; obtain ⟨AA3, cc3, rfl⟩ := own_form o1; (try simp only [List.length_append, List.length_singleton] at hown3); (try simp only [List.length_append, List.length_singleton] at hq3); clear o1 o2 o3 o4 b0 b1 b2 b3 b4 b5 b6 b7 b8 b9; obtain ⟨b0, b1, b2, b3, b4, b5, b6, b7, b8, b9⟩ := hx3.box)) | (at_builtin; (refine wpList_app1 rt_bytes w3 (.int .u8 2) rfl (.tmp 39) (.tmp 44) rfl w.heap.size (.slice AA3 (out.length + 1) cc3) (out ++ [2]).length (Lib.byteCells (out ++ [2])) rfl hown3 rfl rfl (by simp; omega) (by simp; omega) hs3 ?_; intro v4 w4 o1 o2 o3 o4; have hx4 := wbox_app hx3 o2 hq3; have hq4 : v4.ownBlock ≠ some wr.heap.size := wrow_other hq3 hx3.lt o3; have hown4 : ByteRow w4 w.heap.size v4 ((out ++ [2]) ++ [2]) := byteRow_one o1 rfl; have hs4 := Nat.le_trans hs3 o4.size; have hbw4 : Below w.heap.size w w4 := hbw3.trans o4; obtain ⟨AA4, cc4, rfl⟩ := own_form o1; (try simp only [List.length_append, List.length_singleton] at hown4); (try simp only [List.length_append, List.length_singleton] at hq4); clear o1 o2 o3 o4 b0 b1 b2 b3 b4 b5 b6 b7 b8 b9; obtain ⟨b0, b1, b2, b3, b4, b5, b6, b7, b8, b9⟩ := hx4.box)) | (at_builtin; (refine wpList_app1 rt_bytes w4 (.int .u8 1) rfl (.tmp 70) (.tmp 75) rfl w.heap.size (.slice AA4 (out.length + 1 + 1) cc4) (out ++ [2] ++ [2]).length (Lib.byteCells (out ++ [2] ++ [2])) rfl hown4 rfl rfl (by simp; omega) (by simp; omega) hs4 ?_; intro v5 w5 o1 o2 o3 o4; have hx5 := wbox_app hx4 o2 hq4; have hq5 : v5.ownBlock ≠ some wr.heap.size := wrow_other hq4 hx4.lt o3; have hown5 : ByteRow w5 w.heap.size v5 ((out ++ [2] ++ [2]) ++ [1]) := byteRow_one o1 rfl; have hs5 := Nat.le_trans hs4 o4.size; have hbw5 : Below w.heap.size w w5 := hbw4.trans o4; obtain ⟨AA5, cc5, rfl⟩ := own_form o1; (try simp only [List.length_append, List.length_singleton] at hown5); (try simp only [List.length_append, List.length_singleton] at hq5); clear o1 o2 o3 o4 b0 b1 b2 b3 b4 b5 b6 b7 b8 b9; obtain ⟨b0, b1, b2, b3, b4, b5, b6, b7, b8, b9⟩ := hx5.box)))
       have hwo : wireOf (⟨2, 2, 1, vt, ty, lb⟩ : Ev) = [2] ++ ([2] ++ [1]) := wo_bool2_1 vt ty lb
       have hrow := hown5
       rw [show out ++ [2] ++ [2] ++ [1] = out ++ wireOf (⟨2, 2, 1, vt, ty, lb⟩ : Ev) by rw [hwo]; simp] at hrow
       have hlen : (out ++ wireOf (⟨2, 2, 1, vt, ty, lb⟩ : Ev)).length ≤ (j + 1) * 7000 := by rw [List.length_append]; have := hlw.out; omega
       refine ⟨⟨j + 1, out ++ wireOf (⟨2, 2, 1, vt, ty, lb⟩ : Ev), by omega, by go_num, hnx, HWA, hlen, hrow, hbw5⟩, ?_⟩
       simp [intOf] <;> omega

      ·go_wp2_with fail
       have B0 : Below wr.heap.size wr (wr.alloc (.cells (evCells (⟨3, 2, 0, vt, ty, lb⟩ : Ev) (.slice A1 ty.labels.length c1) (.slice A2 ty.kids.length c2)) 32)) := by go_grown
       generalize wr.alloc (.cells (evCells (⟨3, 2, 0, vt, ty, lb⟩ : Ev) (.slice A1 ty.labels.length c1) (.slice A2 ty.kids.length c2)) 32) = W at hnew B0 ⊢
       refine (HCK0.out _ (HIN.out.below (chain hb B0)) (hT.below (chain hb B0))).mono ?_
       rintro r w1 ⟨rfl, hb1⟩
       have hbw := chain (chain hb B0) hb1
       have hx1 := hnew.out.keep hb1
       have hown1 := own_keep hown (chain B0 hb1) (Nat.le_refl _)
       have hs1 := hbw.size
       obtain ⟨b0, b1, b2, b3, b4, b5, b6, b7, b8, b9⟩ := hx1.box
       go_wp2_with (first | (at_builtin; (refine wpList_app1 rt_bytes w1 (.int .u8 3) rfl (.tmp 24) (.tmp 28) rfl w.heap.size (.slice A3 out.length c3) out.length (Lib.byteCells out) rfl hown1 rfl rfl (by simp; omega) (by simp; omega) hs1 ?_; intro v3 w3 o1 o2 o3 o4; have hx3 := wbox_app hx1 o2 hqo; have hq3 : v3.ownBlock ≠ some wr.heap.size := wrow_other hqo hx1.lt o3; have hown3 : ByteRow w3 w.heap.size v3 (out ++ [3]) := byteRow_one o1 rfl; have hs3 := Nat.le_trans hs1 o4.size; have hbw3 : Below w.heap.size w w3 := hbw.trans o4; obtain ⟨AA3, cc3, rfl⟩ := own_form o1; (try simp only [List.length_append, List.length_singleton] at hown3); (try simp only [List.length_append, List.length_singleton] at hq3); clear o1 o2 o3 o4 b0 b1 b2 b3 b4 b5 b6 b7 b8 b9; obtain ⟨b0, b1, b2, b3, b4, b5, b6, b7, b8, b9⟩ := hx3.box)) | (at_builtin; (refine wpList_app1 rt_bytes w3 (.int .u8 2) rfl (.tmp 39) (.tmp 44) rfl w.heap.size (.slice AA3 (out.length + 1) cc3) (out ++ [3]).length (Lib.byteCells (out ++ [3])) rfl hown3 rfl rfl (by simp; omega) (by simp; omega) hs3 ?_; intro v4 w4 o1 o2 o3 o4; have hx4 := wbox_app hx3 o2 hq3; have hq4 : v4.ownBlock ≠ some wr.heap.size := wrow_other hq3 hx3.lt o3; have hown4 : ByteRow w4 w.heap.size v4 ((out ++ [3]) ++ [2]) := byteRow_one o1 rfl; have hs4 := Nat.le_trans hs3 o4.size; have hbw4 : Below w.heap.size w w4 := hbw3.trans o4; obtain ⟨AA4, cc4, rfl⟩ := own_form o1; (try simp only [List.length_append, List.length_singleton] at hown4); (try simp only [List.length_append, List.length_singleton] at hq4); clear o1 o2 o3 o4 b0 b1 b2 b3 b4 b5 b6 b7 b8 b9; obtain ⟨b0, b1, b2, b3, b4, b5, b6, b7, b8, b9⟩ := hx4.box)) | (at_builtin; (refine wpList_app1 rt_bytes w4 (.int .u8 0) rfl (.tmp 70) (.tmp 75) rfl w.heap.size (.slice AA4 (out.length + 1 + 1) cc4) (out ++ [3] ++ [2]).length (Lib.byteCells (out ++ [3] ++ [2])) rfl hown4 rfl rfl (by simp; omega) (by simp; omega) hs4 ?_; intro v5 w5 o1 o2 o3 o4; have hx5 := wbox_app hx4 o2 hq4; have hq5 : v5.ownBlock ≠ some wr.heap.size := wrow_other hq4 hx4.lt o3; have hown5 : ByteRow w5 w.heap.size v5 ((out ++ [3] ++ [2]) ++ [0]) := byteRow_one o1 rfl; have hs5 := Nat.le_trans hs4 o4.size; have hbw5 : Below w.heap.size w w5 := hbw4.trans o4; obtain ⟨AA5, cc5, rfl⟩ := own_form o1; (try simp only [List.length_append, List.length_singleton] at hown5); (try simp only [List.length_append, List.length_singleton] at hq5); clear o1 o2 o3 o4 b0 b1 b2 b3 b4 b5 b6 b7 b8 b9; obtain ⟨b0, b1, b2, b3, b4, b5, b6, b7, b8, b9⟩ := hx5.box)))
       have hwo : wireOf (⟨3, 2, 0, vt, ty, lb⟩ : Ev) = [3] ++ ([2] ++ [0]) := wo_bool3_0 vt ty lb
       have hrow := hown5
       rw [show out ++ [3] ++ [2] ++ [0] = out ++ wireOf (⟨3, 2, 0, vt, ty, lb⟩ : Ev) by rw [hwo]; simp] at hrow
       have hlen : (out ++ wireOf (⟨3, 2, 0, vt, ty, lb⟩ : Ev)).length ≤ (j + 1) * 7000 := by rw [List.length_append]; have := hlw.out; omega
       refine ⟨⟨j + 1, out ++ wireOf (⟨3, 2, 0, vt, ty, lb⟩ : Ev), by omega, by go_num, hnx, HWA, hlen, hrow, hbw5⟩, ?_⟩
       simp [intOf] <;> omega

      ·go_wp2_with fail
       have B0 : Below wr.heap.size wr (wr.alloc (.cells (evCells (⟨3, 2, 1, vt, ty, lb⟩ : Ev) (.slice A1 ty.labels.length c1) (.slice A2 ty.kids.length c2)) 32)) := by go_grown
       generalize wr.alloc (.cells (evCells (⟨3, 2, 1, vt, ty, lb⟩ : Ev) (.slice A1 ty.labels.length c1) (.slice A2 ty.kids.length c2)) 32) = W at hnew B0 ⊢
       refine (HCK0.out _ (HIN.out.below (chain hb B0)) (hT.below (chain hb B0))).mono ?_
       rintro r w1 ⟨rfl, hb1⟩
       have hbw := chain (chain hb B0) hb1
       have hx1 := hnew.out.keep hb1
       have hown1 := own_keep hown (chain B0 hb1) (Nat.le_refl _)
       have hs1 := hbw.size
       obtain ⟨b0, b1, b2, b3, b4, b5, b6, b7, b8, b9⟩ := hx1.box
       go_wp2_with (first | (at_builtin; (refine wpList_app1 rt_bytes w1 (.int .u8 3) rfl (.tmp 24) (.tmp 28) rfl w.heap.size (.slice A3 out.length c3) out.length (Lib.byteCells out) rfl hown1 rfl rfl (by simp; omega) (by simp; omega) hs1 ?_; intro v3 w3 o1 o2 o3 o4; have hx3 := wbox_app hx1 o2 hqo; have hq3 : v3.ownBlock ≠ some wr.heap.size := wrow_other hqo hx1.lt o3; have hown3 : ByteRow w3 w.heap.size v3 (out ++ [3]) := byteRow_one o1 rfl; have hs3 := Nat.le_trans hs1 o4.size; have hbw3 : Below w.heap.size w w3 := hbw.trans o4; obtain ⟨AA3, cc3, rfl⟩ := own_form o1; (try simp only [List.length_append, List.length_singleton] at hown3); (try simp only [List.length_append, List.length_singleton] at hq3); clear o1 o2 o3 o4 b0 b1 b2 b3 b4 b5 b6 b7 b8 b9; obtain ⟨b0, b1, b2, b3, b4, b5, b6, b7, b8, b9⟩ := hx3.box)) | (at_builtin; (refine wpList_app1 rt_bytes w3 (.int .u8 2) rfl (.tmp 39) (.tmp 44) rfl w.heap.size (.slice AA3 (out.length + 1) cc3) (out ++ [3]).length (Lib.byteCells (out ++ [3])) rfl hown3 rfl rfl (by simp; omega) (by simp; omega) hs3 ?_; intro v4 w4 o1 o2 o3 o4; have hx4 := wbox_app hx3 o2 hq3; have hq4 : v4.ownBlock ≠ some wr.heap.size := wrow_other hq3 hx3.lt o3; have hown4 : ByteRow w4 w.heap.size v4 ((out ++ [3]) ++ [2]) := byteRow_one o1 rfl; have hs4 := Nat.le_trans hs3 o4.size; have hbw4 : Below w.heap.size w w4 := hbw3.trans o4; obtain ⟨AA4, cc4, rfl⟩ := own_form o1; (try simp only [List.length_append, List.length_singleton] at hown4); (try simp only [List.length_append, List.length_singleton] at hq4); clear o1 o2 o3 o4 b0 b1 b2 b3 b4 b5 b6 b7 b8 b9; obtain ⟨b0, b1, b2, b3, b4, b5, b6, b7, b8, b9⟩ := hx4.box)) | (at_builtin; (refine wpList_app1 rt_bytes w4 (.int .u8 1) rfl (.tmp 70) (.tmp 75) rfl w.heap.size (.slice AA4 (out.length + 1 + 1) cc4) (out ++ [3] ++ [2]).length (Lib.byteCells (out ++ [3] ++ [2])) rfl hown4 rfl rfl (by simp; omega) (by simp; omega) hs4 ?_; intro v5 w5 o1 o2 o3 o4; have hx5 := wbox_app hx4 o2 hq4; have hq5 : v5.ownBlock ≠ some wr.heap.size := wrow_other hq4 hx4.lt o3; have hown5 : ByteRow w5 w.heap.size v5 ((out ++ [3] ++ [2]) ++ [1]) := byteRow_one o1 rfl; have hs5 := Nat.le_trans hs4 o4.size; have hbw5 : Below w.heap.size w w5 := hbw4.trans o4; obtain ⟨AA5, cc5, rfl⟩ := own_form o1; (try simp only [List.length_append, List.length_singleton] at hown5); (try simp only [List.length_append, List.length_singleton] at hq5); clear o1 o2 o3 o4 b0 b1 b2 b3 b4 b5 b6 b7 b8 b9; obtain ⟨b0, b1, b2, b3, b4, b5, b6, b7, b8, b9⟩ := hx5.box)))
       have hwo : wireOf (⟨3, 2, 1, vt, ty, lb⟩ : Ev) = [3] ++ ([2] ++ [1]) := wo_bool3_1 vt ty lb
       have hrow := hown5
       rw [show out ++ [3] ++ [2] ++ [1] = out ++ wireOf (⟨3, 2, 1, vt, ty, lb⟩ : Ev) by rw [hwo]; simp] at hrow
       have hlen : (out ++ wireOf (⟨3, 2, 1, vt, ty, lb⟩ : Ev)).length ≤ (j + 1) * 7000 := by rw [List.length_append]; have := hlw.out; omega
       refine ⟨⟨j + 1, out ++ wireOf (⟨3, 2, 1, vt, ty, lb⟩ : Ev), by omega, by go_num, hnx, HWA, hlen, hrow, hbw5⟩, ?_⟩
       simp [intOf] <;> omega

     | text k vt ty lb hk ht =>
      dsimp only at e0 e1 e2 e3 e4 e5 e6 e7 e8 e9 HCK0 HIN hnew
      rcases hk with rfl | rfl
      ·go_wp2_with fail
       have B0 : Below wr.heap.size wr (wr.alloc (.cells (evCells (⟨2, 3, 0, vt, ty, lb⟩ : Ev) (.slice A1 ty.labels.length c1) (.slice A2 ty.kids.length c2)) 32)) := by go_grown
       generalize wr.alloc (.cells (evCells (⟨2, 3, 0, vt, ty, lb⟩ : Ev) (.slice A1 ty.labels.length c1) (.slice A2 ty.kids.length c2)) 32) = W at hnew B0 ⊢
       refine (HCK0.out _ (HIN.out.below (chain hb B0)) (hT.below (chain hb B0))).mono ?_
       rintro r w1 ⟨rfl, hb1⟩
       have hbw := chain (chain hb B0) hb1
       have hx1 := hnew.out.keep hb1
       have hown1 := own_keep hown (chain B0 hb1) (Nat.le_refl _)
       have hs1 := hbw.size
       obtain ⟨b0, b1, b2, b3, b4, b5, b6, b7, b8, b9⟩ := hx1.box
       go_wp2_with (first | (at_builtin; (refine wpList_app1 rt_bytes w1 (.int .u8 2) rfl (.tmp 24) (.tmp 28) rfl w.heap.size (.slice A3 out.length c3) out.length (Lib.byteCells out) rfl hown1 rfl rfl (by simp; omega) (by simp; omega) hs1 ?_; intro v3 w3 o1 o2 o3 o4; have hx3 := wbox_app hx1 o2 hqo; have hq3 : v3.ownBlock ≠ some wr.heap.size := wrow_other hqo hx1.lt o3; have hown3 : ByteRow w3 w.heap.size v3 (out ++ [2]) := byteRow_one o1 rfl; have hs3 := Nat.le_trans hs1 o4.size; have hbw3 : Below w.heap.size w w3 := hbw.trans o4; obtain ⟨AA3, cc3, rfl⟩ := own_form o1; (try simp only [List.length_append, List.length_singleton] at hown3); (try simp only [List.length_append, List.length_singleton] at hq3); clear o1 o2 o3 o4 b0 b1 b2 b3 b4 b5 b6 b7 b8 b9; obtain ⟨b0, b1, b2, b3, b4, b5, b6, b7, b8, b9⟩ := hx3.box)) | (at_builtin; (refine wpList_app1 rt_bytes w3 (.int .u8 3) rfl (.tmp 39) (.tmp 44) rfl w.heap.size (.slice AA3 (out.length + 1) cc3) (out ++ [2]).length (Lib.byteCells (out ++ [2])) rfl hown3 rfl rfl (by simp; omega) (by simp; omega) hs3 ?_; intro v4 w4 o1 o2 o3 o4; have hx4 := wbox_app hx3 o2 hq3; have hq4 : v4.ownBlock ≠ some wr.heap.size := wrow_other hq3 hx3.lt o3; have hown4 : ByteRow w4 w.heap.size v4 ((out ++ [2]) ++ [3]) := byteRow_one o1 rfl; have hs4 := Nat.le_trans hs3 o4.size; have hbw4 : Below w.heap.size w w4 := hbw3.trans o4; obtain ⟨AA4, cc4, rfl⟩ := own_form o1; (try simp only [List.length_append, List.length_singleton] at hown4); (try simp only [List.length_append, List.length_singleton] at hq4); clear o1 o2 o3 o4 b0 b1 b2 b3 b4 b5 b6 b7 b8 b9; obtain ⟨b0, b1, b2, b3, b4, b5, b6, b7, b8, b9⟩ := hx4.box)))
       refine (wtext_any w.heap.size _ (out ++ [2] ++ [3]) vt w4 hown4 (by omega) (by simp; omega) hs4).mono ?_
       rintro r w9 ⟨⟨v9, rfl, hown9⟩, hb9⟩
       have hwo : wireOf (⟨2, 3, 0, vt, ty, lb⟩ : Ev) = [2] ++ ([3] ++ gtext vt) := wo_text2 vt ty lb
       have hrow := hown9
       rw [show out ++ [2] ++ [3] ++ gtext vt = out ++ wireOf (⟨2, 3, 0, vt, ty, lb⟩ : Ev) by rw [hwo]; simp] at hrow
       have hlen : (out ++ wireOf (⟨2, 3, 0, vt, ty, lb⟩ : Ev)).length ≤ (j + 1) * 7000 := by rw [List.length_append]; have := hlw.out; omega
       go_wp2_with fail
       go_roundw
       case rel => exact ⟨j + 1, out ++ wireOf (⟨2, 3, 0, vt, ty, lb⟩ : Ev), by omega, by go_num, hnx, HWA, hlen, hrow, hbw4.trans hb9⟩
       case measure => simp [intOf] <;> omega

      ·go_wp2_with fail
       have B0 : Below wr.heap.size wr (wr.alloc (.cells (evCells (⟨3, 3, 0, vt, ty, lb⟩ : Ev) (.slice A1 ty.labels.length c1) (.slice A2 ty.kids.length c2)) 32)) := by go_grown
       generalize wr.alloc (.cells (evCells (⟨3, 3, 0, vt, ty, lb⟩ : Ev) (.slice A1 ty.labels.length c1) (.slice A2 ty.kids.length c2)) 32) = W at hnew B0 ⊢
       refine (HCK0.out _ (HIN.out.below (chain hb B0)) (hT.below (chain hb B0))).mono ?_
       rintro r w1 ⟨rfl, hb1⟩
       have hbw := chain (chain hb B0) hb1
       have hx1 := hnew.out.keep hb1
       have hown1 := own_keep hown (chain B0 hb1) (Nat.le_refl _)
       have hs1 := hbw.size
       obtain ⟨b0, b1, b2, b3, b4, b5, b6, b7, b8, b9⟩ := hx1.box
       go_wp2_with (first | (at_builtin; (refine wpList_app1 rt_bytes w1 (.int .u8 3) rfl (.tmp 24) (.tmp 28) rfl w.heap.size (.slice A3 out.length c3) out.length (Lib.byteCells out) rfl hown1 rfl rfl (by simp; omega) (by simp; omega) hs1 ?_; intro v3 w3 o1 o2 o3 o4; have hx3 := wbox_app hx1 o2 hqo; have hq3 : v3.ownBlock ≠ some wr.heap.size := wrow_other hqo hx1.lt o3; have hown3 : ByteRow w3 w.heap.size v3 (out ++ [3]) := byteRow_one o1 rfl; have hs3 := Nat.le_trans hs1 o4.size; have hbw3 : Below w.heap.size w w3 := hbw.trans o4; obtain ⟨AA3, cc3, rfl⟩ := own_form o1; (try simp only [List.length_append, List.length_singleton] at hown3); (try simp only [List.length_append, List.length_singleton] at hq3); clear o1 o2 o3 o4 b0 b1 b2 b3 b4 b5 b6 b7 b8 b9; obtain ⟨b0, b1, b2, b3, b4, b5, b6, b7, b8, b9⟩ := hx3.box)) | (at_builtin; (refine wpList_app1 rt_bytes w3 (.int .u8 3) rfl (.tmp 39) (.tmp 44) rfl w.heap.size (.slice AA3 (out.length + 1) cc3) (out ++ [3]).length (Lib.byteCells (out ++ [3])) rfl hown3 rfl rfl (by simp; omega) (by simp; omega) hs3 ?_; intro v4 w4 o1 o2 o3 o4; have hx4 := wbox_app hx3 o2 hq3; have hq4 : v4.ownBlock ≠ some wr.heap.size := wrow_other hq3 hx3.lt o3; have hown4 : ByteRow w4 w.heap.size v4 ((out ++ [3]) ++ [3]) := byteRow_one o1 rfl; have hs4 := Nat.le_trans hs3 o4.size; have hbw4 : Below w.heap.size w w4 := hbw3.trans o4; obtain ⟨AA4, cc4, rfl⟩ := own_form o1; (try simp only [List.length_append, List.length_singleton] at hown4); (try simp only [List.length_append, List.length_singleton] at hq4); clear o1 o2 o3 o4 b0 b1 b2 b3 b4 b5 b6 b7 b8 b9; obtain ⟨b0, b1, b2, b3, b4, b5, b6, b7, b8, b9⟩ := hx4.box)))
       refine (wtext_any w.heap.size _ (out ++ [3] ++ [3]) vt w4 hown4 (by omega) (by simp; omega) hs4).mono ?_
       rintro r w9 ⟨⟨v9, rfl, hown9⟩, hb9⟩
       have hwo : wireOf (⟨3, 3, 0, vt, ty, lb⟩ : Ev) = [3] ++ ([3] ++ gtext vt) := wo_text3 vt ty lb
       have hrow := hown9
       rw [show out ++ [3] ++ [3] ++ gtext vt = out ++ wireOf (⟨3, 3, 0, vt, ty, lb⟩ : Ev) by rw [hwo]; simp] at hrow
       have hlen : (out ++ wireOf (⟨3, 3, 0, vt, ty, lb⟩ : Ev)).length ≤ (j + 1) * 7000 := by rw [List.length_append]; have := hlw.out; omega
       go_wp2_with fail
       go_roundw
       case rel => exact ⟨j + 1, out ++ wireOf (⟨3, 3, 0, vt, ty, lb⟩ : Ev), by omega, by go_num, hnx, HWA, hlen, hrow, hbw4.trans hb9⟩
       case measure => simp [intOf] <;> omega

     | type k vs vn vt ty lb hk ht =>
      dsimp only at e0 e1 e2 e3 e4 e5 e6 e7 e8 e9 HCK0 HIN hnew
      rcases hk with rfl | rfl
      ·go_wp2_with fail
       have B0 : Below wr.heap.size wr (wr.alloc (.cells (evCells (⟨4, vs, vn, vt, ty, lb⟩ : Ev) (.slice A1 ty.labels.length c1) (.slice A2 ty.kids.length c2)) 32)) := by go_grown
       generalize wr.alloc (.cells (evCells (⟨4, vs, vn, vt, ty, lb⟩ : Ev) (.slice A1 ty.labels.length c1) (.slice A2 ty.kids.length c2)) 32) = W at hnew B0 ⊢
       refine (HCK0.out _ (HIN.out.below (chain hb B0)) (hT.below (chain hb B0))).mono ?_
       rintro r w1 ⟨rfl, hb1⟩
       have hbw := chain (chain hb B0) hb1
       have hx1 := hnew.out.keep hb1
       have hown1 := own_keep hown (chain B0 hb1) (Nat.le_refl _)
       have hs1 := hbw.size
       obtain ⟨b0, b1, b2, b3, b4, b5, b6, b7, b8, b9⟩ := hx1.box
       go_wp2_with (first | (at_builtin; (refine wpList_app1 rt_bytes w1 (.int .u8 4) rfl (.tmp 24) (.tmp 28) rfl w.heap.size (.slice A3 out.length c3) out.length (Lib.byteCells out) rfl hown1 rfl rfl (by simp; omega) (by simp; omega) hs1 ?_; intro v3 w3 o1 o2 o3 o4; have hx3 := wbox_app hx1 o2 hqo; have hq3 : v3.ownBlock ≠ some wr.heap.size := wrow_other hqo hx1.lt o3; have hown3 : ByteRow w3 w.heap.size v3 (out ++ [4]) := byteRow_one o1 rfl; have hs3 := Nat.le_trans hs1 o4.size; have hbw3 : Below w.heap.size w w3 := hbw.trans o4; obtain ⟨AA3, cc3, rfl⟩ := own_form o1; (try simp only [List.length_append, List.length_singleton] at hown3); (try simp only [List.length_append, List.length_singleton] at hq3); clear o1 o2 o3 o4 b0 b1 b2 b3 b4 b5 b6 b7 b8 b9; obtain ⟨b0, b1, b2, b3, b4, b5, b6, b7, b8, b9⟩ := hx3.box)))
       have hp := parts_ok ht
       have hg := good_of_chk ty [] 60 ht
       have htl := txt_len ty hg
       refine (Write_ok ty _ w3 (HIN.out.below hbw3).ty.is HEF.out.y ht (hS.keep hbw3)).mono ?_
       rintro r w4 ⟨rfl, hb4⟩
       have hown4 := own_keep hown3 hb4 (Nat.le_refl _)
       have hbw4 := chain hbw3 hb4
       clear b0 b1 b2 b3 b4 b5 b6 b7 b8 b9
       go_wp2_with fail
       refine (wtext_any w.heap.size _ (out ++ [4]) (txt ty) w4 hown4 (by omega) (by simp; omega) hbw4.size).mono ?_
       rintro r w9 ⟨⟨v9, rfl, hown9⟩, hb9⟩
       have hwo : wireOf (⟨4, vs, vn, vt, ty, lb⟩ : Ev) = [4] ++ gtext (txt ty) := wo_type4 vs vn vt ty lb
       have hrow := hown9
       rw [show out ++ [4] ++ gtext (txt ty) = out ++ wireOf (⟨4, vs, vn, vt, ty, lb⟩ : Ev) by rw [hwo]; simp] at hrow
       have hlen : (out ++ wireOf (⟨4, vs, vn, vt, ty, lb⟩ : Ev)).length ≤ (j + 1) * 7000 := by rw [List.length_append]; have := hlw.out; omega
       go_wp2_with fail
       go_roundw
       case rel => exact ⟨j + 1, out ++ wireOf (⟨4, vs, vn, vt, ty, lb⟩ : Ev), by omega, by go_num, hnx, HWA, hlen, hrow, hbw4.trans hb9⟩
       case measure => simp [intOf] <;> omega

      ·go_wp2_with fail
       have B0 : Below wr.heap.size wr (wr.alloc (.cells (evCells (⟨5, vs, vn, vt, ty, lb⟩ : Ev) (.slice A1 ty.labels.length c1) (.slice A2 ty.kids.length c2)) 32)) := by go_grown
       generalize wr.alloc (.cells (evCells (⟨5, vs, vn, vt, ty, lb⟩ : Ev) (.slice A1 ty.labels.length c1) (.slice A2 ty.kids.length c2)) 32) = W at hnew B0 ⊢
       refine (HCK0.out _ (HIN.out.below (chain hb B0)) (hT.below (chain hb B0))).mono ?_
       rintro r w1 ⟨rfl, hb1⟩
       have hbw := chain (chain hb B0) hb1
       have hx1 := hnew.out.keep hb1
       have hown1 := own_keep hown (chain B0 hb1) (Nat.le_refl _)
       have hs1 := hbw.size
       obtain ⟨b0, b1, b2, b3, b4, b5, b6, b7, b8, b9⟩ := hx1.box
       go_wp2_with (first | (at_builtin; (refine wpList_app1 rt_bytes w1 (.int .u8 5) rfl (.tmp 24) (.tmp 28) rfl w.heap.size (.slice A3 out.length c3) out.length (Lib.byteCells out) rfl hown1 rfl rfl (by simp; omega) (by simp; omega) hs1 ?_; intro v3 w3 o1 o2 o3 o4; have hx3 := wbox_app hx1 o2 hqo; have hq3 : v3.ownBlock ≠ some wr.heap.size := wrow_other hqo hx1.lt o3; have hown3 : ByteRow w3 w.heap.size v3 (out ++ [5]) := byteRow_one o1 rfl; have hs3 := Nat.le_trans hs1 o4.size; have hbw3 : Below w.heap.size w w3 := hbw.trans o4; obtain ⟨AA3, cc3, rfl⟩ := own_form o1; (try simp only [List.length_append, List.length_singleton] at hown3); (try simp only [List.length_append, List.length_singleton] at hq3); clear o1 o2 o3 o4 b0 b1 b2 b3 b4 b5 b6 b7 b8 b9; obtain ⟨b0, b1, b2, b3, b4, b5, b6, b7, b8, b9⟩ := hx3.box)))
       have hp := parts_ok ht
       have hg := good_of_chk ty [] 60 ht
       have htl := txt_len ty hg
       refine (Write_ok ty _ w3 (HIN.out.below hbw3).ty.is HEF.out.y ht (hS.keep hbw3)).mono ?_
       rintro r w4 ⟨rfl, hb4⟩
       have hown4 := own_keep hown3 hb4 (Nat.le_refl _)
       have hbw4 := chain hbw3 hb4
       clear b0 b1 b2 b3 b4 b5 b6 b7 b8 b9
       go_wp2_with fail
       refine (wtext_any w.heap.size _ (out ++ [5]) (txt ty) w4 hown4 (by omega) (by simp; omega) hbw4.size).mono ?_
       rintro r w9 ⟨⟨v9, rfl, hown9⟩, hb9⟩
       have hwo : wireOf (⟨5, vs, vn, vt, ty, lb⟩ : Ev) = [5] ++ gtext (txt ty) := wo_type5 vs vn vt ty lb
       have hrow := hown9
       rw [show out ++ [5] ++ gtext (txt ty) = out ++ wireOf (⟨5, vs, vn, vt, ty, lb⟩ : Ev) by rw [hwo]; simp] at hrow
       have hlen : (out ++ wireOf (⟨5, vs, vn, vt, ty, lb⟩ : Ev)).length ≤ (j + 1) * 7000 := by rw [List.length_append]; have := hlw.out; omega
       go_wp2_with fail
       go_roundw
       case rel => exact ⟨j + 1, out ++ wireOf (⟨5, vs, vn, vt, ty, lb⟩ : Ev), by omega, by go_num, hnx, HWA, hlen, hrow, hbw4.trans hb9⟩
       case measure => simp [intOf] <;> omega

     | label k vs vn vt ty lb hk hl =>
      dsimp only at e0 e1 e2 e3 e4 e5 e6 e7 e8 e9 HCK0 HIN hnew
      rcases hk with rfl | rfl
      ·go_wp2_with fail
       have B0 : Below wr.heap.size wr (wr.alloc (.cells (evCells (⟨6, vs, vn, vt, ty, lb⟩ : Ev) (.slice A1 ty.labels.length c1) (.slice A2 ty.kids.length c2)) 32)) := by go_grown
       generalize wr.alloc (.cells (evCells (⟨6, vs, vn, vt, ty, lb⟩ : Ev) (.slice A1 ty.labels.length c1) (.slice A2 ty.kids.length c2)) 32) = W at hnew B0 ⊢
       refine (HCK0.out _ (HIN.out.below (chain hb B0)) (hT.below (chain hb B0))).mono ?_
       rintro r w1 ⟨rfl, hb1⟩
       have hbw := chain (chain hb B0) hb1
       have hx1 := hnew.out.keep hb1
       have hown1 := own_keep hown (chain B0 hb1) (Nat.le_refl _)
       have hs1 := hbw.size
       obtain ⟨b0, b1, b2, b3, b4, b5, b6, b7, b8, b9⟩ := hx1.box
       go_wp2_with (first | (at_builtin; (refine wpList_app1 rt_bytes w1 (.int .u8 6) rfl (.tmp 24) (.tmp 28) rfl w.heap.size (.slice A3 out.length c3) out.length (Lib.byteCells out) rfl hown1 rfl rfl (by simp; omega) (by simp; omega) hs1 ?_; intro v3 w3 o1 o2 o3 o4; have hx3 := wbox_app hx1 o2 hqo; have hq3 : v3.ownBlock ≠ some wr.heap.size := wrow_other hqo hx1.lt o3; have hown3 : ByteRow w3 w.heap.size v3 (out ++ [6]) := byteRow_one o1 rfl; have hs3 := Nat.le_trans hs1 o4.size; have hbw3 : Below w.heap.size w w3 := hbw.trans o4; obtain ⟨AA3, cc3, rfl⟩ := own_form o1; (try simp only [List.length_append, List.length_singleton] at hown3); (try simp only [List.length_append, List.length_singleton] at hq3); clear o1 o2 o3 o4 b0 b1 b2 b3 b4 b5 b6 b7 b8 b9; obtain ⟨b0, b1, b2, b3, b4, b5, b6, b7, b8, b9⟩ := hx3.box)))
       refine (wtext_any w.heap.size _ (out ++ [6]) lb w3 hown3 (by omega) (by simp; omega) hs3).mono ?_
       rintro r w9 ⟨⟨v9, rfl, hown9⟩, hb9⟩
       have hwo : wireOf (⟨6, vs, vn, vt, ty, lb⟩ : Ev) = [6] ++ gtext lb := wo_label6 vs vn vt ty lb
       have hrow := hown9
       rw [show out ++ [6] ++ gtext lb = out ++ wireOf (⟨6, vs, vn, vt, ty, lb⟩ : Ev) by rw [hwo]; simp] at hrow
       have hlen : (out ++ wireOf (⟨6, vs, vn, vt, ty, lb⟩ : Ev)).length ≤ (j + 1) * 7000 := by rw [List.length_append]; have := hlw.out; omega
       go_wp2_with fail
       go_roundw
       case rel => exact ⟨j + 1, out ++ wireOf (⟨6, vs, vn, vt, ty, lb⟩ : Ev), by omega, by go_num, hnx, HWA, hlen, hrow, hbw3.trans hb9⟩
       case measure => simp [intOf] <;> omega

      ·go_wp2_with fail
       have B0 : Below wr.heap.size wr (wr.alloc (.cells (evCells (⟨7, vs, vn, vt, ty, lb⟩ : Ev) (.slice A1 ty.labels.length c1) (.slice A2 ty.kids.length c2)) 32)) := by go_grown
       generalize wr.alloc (.cells (evCells (⟨7, vs, vn, vt, ty, lb⟩ : Ev) (.slice A1 ty.labels.length c1) (.slice A2 ty.kids.length c2)) 32) = W at hnew B0 ⊢
       refine (HCK0.out _ (HIN.out.below (chain hb B0)) (hT.below (chain hb B0))).mono ?_
       rintro r w1 ⟨rfl, hb1⟩
       have hbw := chain (chain hb B0) hb1
       have hx1 := hnew.out.keep hb1
       have hown1 := own_keep hown (chain B0 hb1) (Nat.le_refl _)
       have hs1 := hbw.size
       obtain ⟨b0, b1, b2, b3, b4, b5, b6, b7, b8, b9⟩ := hx1.box
       go_wp2_with (first | (at_builtin; (refine wpList_app1 rt_bytes w1 (.int .u8 7) rfl (.tmp 24) (.tmp 28) rfl w.heap.size (.slice A3 out.length c3) out.length (Lib.byteCells out) rfl hown1 rfl rfl (by simp; omega) (by simp; omega) hs1 ?_; intro v3 w3 o1 o2 o3 o4; have hx3 := wbox_app hx1 o2 hqo; have hq3 : v3.ownBlock ≠ some wr.heap.size := wrow_other hqo hx1.lt o3; have hown3 : ByteRow w3 w.heap.size v3 (out ++ [7]) := byteRow_one o1 rfl; have hs3 := Nat.le_trans hs1 o4.size; have hbw3 : Below w.heap.size w w3 := hbw.trans o4; obtain ⟨AA3, cc3, rfl⟩ := own_form o1; (try simp only [List.length_append, List.length_singleton] at hown3); (try simp only [List.length_append, List.length_singleton] at hq3); clear o1 o2 o3 o4 b0 b1 b2 b3 b4 b5 b6 b7 b8 b9; obtain ⟨b0, b1, b2, b3, b4, b5, b6, b7, b8, b9⟩ := hx3.box)))
       refine (wtext_any w.heap.size _ (out ++ [7]) lb w3 hown3 (by omega) (by simp; omega) hs3).mono ?_
       rintro r w9 ⟨⟨v9, rfl, hown9⟩, hb9⟩
       have hwo : wireOf (⟨7, vs, vn, vt, ty, lb⟩ : Ev) = [7] ++ gtext lb := wo_label7 vs vn vt ty lb
       have hrow := hown9
       rw [show out ++ [7] ++ gtext lb = out ++ wireOf (⟨7, vs, vn, vt, ty, lb⟩ : Ev) by rw [hwo]; simp] at hrow
       have hlen : (out ++ wireOf (⟨7, vs, vn, vt, ty, lb⟩ : Ev)).length ≤ (j + 1) * 7000 := by rw [List.length_append]; have := hlw.out; omega
       go_wp2_with fail
       go_roundw
       case rel => exact ⟨j + 1, out ++ wireOf (⟨7, vs, vn, vt, ty, lb⟩ : Ev), by omega, by go_num, hnx, HWA, hlen, hrow, hbw3.trans hb9⟩
       case measure => simp [intOf] <;> omega

    ·have hre : RE = errOf e := by rw [hfat, if_pos h0]
     rw [← hre] at HCK0 h0
     have hz0 : (RE != 0) = true := by rw [bne_iff_ne]; exact h0
     have hres : TXT = [] := by rw [← HTXT.out, if_neg h0]
     subst hres
     clear hfat hre h0
     go_wp2_with fail
     have B0 : Below wr.heap.size wr (wr.alloc (.cells (evCells e (.slice A1 e.ty.labels.length c1) (.slice A2 e.ty.kids.length c2)) 32)) := by go_grown
     generalize wr.alloc (.cells (evCells e (.slice A1 e.ty.labels.length c1) (.slice A2 e.ty.kids.length c2)) 32) = W at hnew B0 ⊢
     refine (HCK0.out _ (HIN.out.below (chain hb B0)) (hT.below (chain hb B0))).mono ?_
     rintro r w1 ⟨rfl, hb1⟩
     have hbw := chain (chain hb B0) hb1
     go_wp2_with fail
     go_ret2
     exact ⟨rfl, hbw⟩
   ·obtain rfl : j = L := by omega
    have hre : RE = 0 := by
     have := hfe.out
     rw [List.drop_of_length_le (by rw [HL.out]; exact Nat.le_refl _)] at this
     exact this.symm
    subst hre
    have hwl : wireAll l = out := by
     have := hout.out
     rw [List.take_of_length_le (by rw [HL.out]; exact Nat.le_refl _)] at this
     exact this
    have hres : TXT = out := by rw [← HTXT.out, if_pos rfl, hwl]
    subst hres
    have hcv := conv_bytes0 hown
    clear hfe hout hwl
    go_wp2_with fail
    go_ret2
    exact ⟨rfl, hb⟩
end Go.Proofs.YtpidjanngbaiiaaGreatDoor
