/-
  Joined: the reference's and the program's.
-/
import Derived.Test.YtcacembpegoghaaDoorVal8
import Derived.Laws.AppendOwnNone
namespace Go.Proofs.YtcacembpegoghaaDoor
open Go.RowKit Go.Proofs Go.Sort

section
variable {P : Program} {ops : Array Oper} {rest : List Oper} {o : Oper} {a : Act} {Q : Exit → Act → World → Prop} {w : World}
/-- append(xs, ys...) of two rows of the call's own. -/
theorem wpList_app_rows {T E : TypeId} {size bytes : Nat} (R : RowType P T E size bytes) (hgd : o.guard = none) (s x : Operand)
    (ho : o.op = .call { callee := .builtin .append, args := #[s, x], argTypes := #[T, T] })
    (base : Nat) (v : Value) (n : Nat) (xs : List Value) (hs : a.eval s = v) (hown : w.ownsRow base E size v n xs)
    (b2 : Nat) (y : Value) (m : Nat) (ys : List Value) (hx : a.eval x = y) (hsrc : w.ownsRow b2 E size y m ys) (h1 : ∀ u ∈ ys, u.oneCell' = true)
    (h63 : n + m ≤ maxLen) (hbytes : (n + m) * bytes ≤ 140737488355328) (hbase : base ≤ w.heap.size)
    (h : ∀ v' w', w'.ownsRow base E size v' (n + m) (xs ++ ys) → Below base w w' → wpList P ops Q rest (a.put o.dst v') w') : wpList P ops Q (o :: rest) a w := by
  have hsrc0 := hsrc
  rcases hsrc.2 with ⟨rfl, rfl⟩ | ⟨g, cap, cur, rfl, hg, hh, hn, hc, hcs, htake⟩
  · obtain ⟨i, z, hi, hz, hsize, hby, hzs⟩ := R.ex
    refine wpList_append_own_none hgd s x T ho base E i size R.ht hi v n xs hs hown hx ?_
    have : ys = [] := List.eq_nil_of_length_eq_zero (by rw [hsrc0.1]; omega)
    subst this
    exact h v w (by simpa using hown) (Below.refl _ _)
  · exact wpList_app R hgd s x ho base v n xs hs hown ⟨g, 0, none⟩ m cap ys hx hsrc0.1 (hsrc0.cells (g := g) rfl) h1 h63 hbytes hbase fun v' w' k1 _ _ k4 => h v' w' k1 k4
end

theorem own_form {w : World} {base : Nat} {E : TypeId} {size n : Nat} {v : Value} {xs : List Value} (h : w.ownsRow base E size v n xs) : ∃ A cap, v = .slice A n cap := by
  rcases h.2 with ⟨rfl, h0⟩ | ⟨g, cap, cur, rfl, _⟩
  · rw [h0]; exact ⟨_, _, rfl⟩
  · exact ⟨_, _, rfl⟩
theorem oneCell_runes (rs : List Int) : ∀ u ∈ runeCells rs, u.oneCell' = true := by
  intro u hu
  obtain ⟨r, _, rfl⟩ := List.mem_map.1 hu
  rfl

/-- What the loop of Joined has in hand: the part that is done, and whether it goes on. -/
theorem joinGo_step (s : List UInt8) (c : Int) (r : List Int) (h : ¬ 100 < s.length + (enc c).length) : joinGo s (c :: r) = joinGo (s ++ enc c) r := by
  show (if 100 < s.length + (enc c).length then s else joinGo (s ++ enc c) r) = _
  rw [if_neg h]
theorem joinGo_stop (s : List UInt8) (c : Int) (r : List Int) (h : 100 < s.length + (enc c).length) : joinGo s (c :: r) = s := by
  show (if 100 < s.length + (enc c).length then s else joinGo (s ++ enc c) r) = _
  rw [if_pos h]

theorem letters_len {t : List UInt8} {rs : List Int} (h : letters t = some rs) : rs.length ≤ t.length := by
  have h1 := runeCount_letters t rs h
  have h2 := Lib.runeCount_le ⟨t.toArray⟩
  rw [Lib.size_eq] at h2
  have h3 : (⟨t.toArray⟩ : ByteArray).data.toList.length = t.length := by simp
  omega

set_option maxRecDepth 100000 in
set_option maxHeartbeats 1000000 in
theorem refJoined_any (t t' : List UInt8) (rs rs' : List Int) (w : World) (hT : Tabs w) (hl : t.length ≤ 100) (hl' : t'.length ≤ 100) (hr : letters t = some rs) (hr' : letters t' = some rs') :
    Calls Tryd.prog 17 #[.string ⟨t.toArray⟩, .string ⟨t'.toArray⟩] w fun e w' => e = .returned (.string ⟨(joinGo [] (rs ++ rs')).toArray⟩) ∧ Below w.heap.size w w' := by
  have hrl := letters_len hr
  have hrl' := letters_len hr'
  have hval := (letters_spec _ t rs (Nat.le_refl _) hr).2
  have hval' := (letters_spec _ t' rs' (Nat.le_refl _) hr').2
  have HV : Hid (∀ r ∈ rs ++ rs', Utf8.valid r = true) := by
    intro r hm
    rcases List.mem_append.1 hm with h | h
    · exact hval r h
    · exact hval' r h
  have HR := Lib.hid hr; have HR' := Lib.hid hr'; clear hr hr' hval hval'
  obtain ⟨L, hL⟩ : ∃ L, rs ++ rs' = L := ⟨_, rfl⟩
  have hLl : rs.length + rs'.length = L.length := by rw [← hL]; simp
  have hLc : runeCells rs ++ runeCells rs' = runeCells L := by rw [← hL]; simp
  have HLc := Lib.hid hLc
  rw [hL] at HV ⊢
  have hLb : rs.length + rs'.length ≤ 200 := by omega
  have hLen2 : L.length ≤ 200 := by omega
  have HLl := Lib.hid hLl
  clear hL hLl hLc
  go_enter Tryd.func17, Tryd.ntmps17
  go_wp2_with fail
  refine (letters_any t _ (by omega) hT).mono ?_; rw [HR.out]; rintro e w1 ⟨hb1, v, rfl, hown⟩
  go_wp2_with fail
  refine (letters_any t' _ (by omega) (hT.below hb1)).mono ?_; rw [HR'.out]; rintro e w2 ⟨hb2, v', rfl, hown'⟩
  have ho := own_keep hown hb2 (Nat.le_refl _)
  have hb := chain hb1 hb2
  clear hown
  go_wp2_with (at_builtin; go_must (refine wpList_app_rows rt_runes rfl (.tmp 22) (.tmp 23) rfl w.heap.size v rs.length (runeCells rs) rfl ho w1.heap.size v' rs'.length (runeCells rs') rfl hown' (oneCell_runes rs') (by unfold maxLen; omega) (by omega) hb.size ?_; intro v3 w3 hown3 hb3; rw [HLl.out, HLc.out] at hown3; obtain ⟨A, cap, rfl⟩ := own_form hown3))
  have hbw := hb.trans hb3
  have HO := Lib.hid hown3; clear hown3 hown' ho
  go_loop [9, 11, 26] (fun s _ i => ∃ (k : Nat) (u : List UInt8), k ≤ L.length ∧ i = .int .i64 k ∧ s = .string ⟨u.toArray⟩ ∧ u.length ≤ 100 ∧ Hid (joinGo [] L = joinGo u (L.drop k))) (fun _ _ i => L.length - (intOf i).toNat)
  case atStart => exact ⟨0, [], by omega, rfl, rfl, by simp, rfl⟩
  case round =>
    obtain ⟨k, u, hk, rfl, rfl, hul, hu⟩ := hrel
    by_cases hlt : k < L.length
    · obtain ⟨g, cp, hv, hg, hgl⟩ := HO.out.form (by omega)
      obtain ⟨rfl, rfl⟩ : A = some ⟨g, 0, none⟩ ∧ cap = cp := by injection hv; exact ⟨‹_›, ‹_›⟩
      have hc : w3.cell? ⟨g, k, none⟩ = some (.int .i32 L[k]) := by
        have := HO.out.cells (g := g) rfl k (.int .i32 L[k]) (by simp [hlt])
        rw [Addr.add_lit, Nat.zero_add] at this
        exact this
      have hdr : Hid (L.drop k = L[k] :: L.drop (k + 1)) := List.drop_eq_getElem_cons hlt
      have hvk := HV.out L[k] (List.getElem_mem hlt)
      obtain ⟨r, hr⟩ : ∃ r, L[k] = r := ⟨_, rfl⟩
      rw [hr] at hc hdr hvk
      have hlen := (enc_facts r hvk).1
      obtain ⟨m, hm⟩ : ∃ m, (enc r).length = m := ⟨_, rfl⟩
      have hm4 := enc_le r
      rw [hm] at hlen hm4
      have HM := Lib.hid hm
      have HLen := Lib.hid hlen
      clear hv hr hvk hm hlen
      by_cases hbig : 100 < u.length + m
      · have hbz : (100 : Int) < (u.length : Int) + (m : Int) := by omega
        go_wp2_with (go_at_call 85; go_must (refine (Tryd.utf8_RuneLen r _).mono ?_; rw [HLen.out]; rintro e w' ⟨rfl, rfl⟩))
        go_ret
        refine ⟨?_, hbw⟩
        rw [hu.out, hdr.out, joinGo_stop _ _ _ (by rw [HM.out]; exact hbig)]
        rfl
      · have hbz : ¬ (100 : Int) < (u.length : Int) + (m : Int) := by omega
        have hnew : Hid (joinGo [] L = joinGo (u ++ enc r) (L.drop (k + 1))) := by
          show _ = _
          rw [hu.out, hdr.out, joinGo_step _ _ _ (by rw [HM.out]; exact hbig)]
        have hlen : (u ++ enc r).length ≤ 100 := by rw [List.length_append, HM.out]; omega
        have HLn := Lib.hid hlen
        clear hlen
        have hel : (enc r).length ≤ 4 := enc_le r
        go_wp2_with (go_at_call 85; go_must (refine (Tryd.utf8_RuneLen r _).mono ?_; rw [HLen.out]; rintro e w' ⟨rfl, rfl⟩))
        go_round
        case rel => exact ⟨k + 1, u ++ enc r, by omega, by go_num, rfl, HLn.out, hnew⟩
        case measure => simp [intOf]; omega
    · go_wp2_with fail
      go_ret
      refine ⟨?_, hbw⟩
      have := hu.out
      rw [List.drop_of_length_le (by omega)] at this
      rw [this]
      rfl
end Go.Proofs.YtcacembpegoghaaDoor
