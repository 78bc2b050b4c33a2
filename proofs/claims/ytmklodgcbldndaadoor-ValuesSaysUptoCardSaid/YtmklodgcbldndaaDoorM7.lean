/-
  The readers of values: the reference's Quoted and ReadValue.
  The program's reader of quoted texts: WriteRune, quoted.
  The readers of values: values.Read, the reference's ReadValue.
  ValuesSays: the law's walk.
-/
import Derived.Test.YtmklodgcbldndaaDoorM6
import Derived.Test.YtmklodgcbldndaaDoorM5
import Derived.Shelf.Strconv.ParseIntPublic10
namespace Go.Proofs.YtmklodgcbldndaaDoor
open Go.RowKit Go.Proofs

set_option maxRecDepth 100000
theorem conv_any {w : World} {base : Nat} {v : Value} {l : Str} (h : w.ownsRow base 5 1 v l.length (Lib.byteCells l)) :
    ∀ n, (convert 59 9 v).run Tryd.prog (w.drewN n) = .ok (.string ⟨l.toArray⟩) (w.drewN n) := by
  intro n
  have h' : (w.drewN n).ownsRow base 5 1 v l.length (Lib.byteCells l) := h
  rcases h.2 with ⟨rfl, h0⟩ | ⟨g, cap, cur, rfl, -⟩
  · have : l = [] := List.eq_nil_of_length_eq_zero h0
    subst this
    rw [run_convert_bytes_string (P := Tryd.prog) (w.drewN n) 59 9 5 none 0 0 Tryd.underlying59 Tryd.underlying5 Tryd.underlying9]
    first | rfl | go_simp
  · refine run_convert_bytes_back (P := Tryd.prog) (w.drewN n) 59 9 5 ⟨g, 0, none⟩ cap l Tryd.underlying59 Tryd.underlying5 Tryd.underlying9 (fun j hj => ?_)
    exact h'.cells rfl j (.int .u8 ((l[j]).toNat)) (by simp [Lib.byteCells, List.getElem?_eq_getElem hj])
def quRes (o : Option (Nat × Str)) : Ending := match o with
  | some x => .returned (.tuple #[.int .i64 x.1, .string ⟨x.2.toArray⟩])
  | none => .returned (.tuple #[.int .i64 (-1), .string ⟨#[]⟩])
theorem qt_end (f : Nat) (out : Str) : qt f [] out = none := by cases f <;> simp [qt]
section
variable {f : Nat} {r out : Str} {b c : UInt8}
theorem qt_34 (h : Lib.validD out = true) : qt (f + 1) (34 :: r) out = some (1, out) := by rw [qt, if_neg (by simp), if_pos (by rfl), if_pos h]
theorem qt_34n (h : Lib.validD out = false) : qt f (34 :: r) out = none := by
  cases f with
  | zero => rfl
  | succ f => rw [qt, if_neg (by simp), if_pos (by rfl), if_neg (by simp [h])]
theorem qt_10 : qt f (10 :: r) out = none := by
  cases f with
  | zero => rfl
  | succ f => rw [qt, if_neg (by simp), if_neg (by simp), if_pos (by rfl)]
theorem qt_92e : qt f [92] out = none := by
  cases f with
  | zero => rfl
  | succ f => rw [qt, if_neg (by simp), if_neg (by simp), if_neg (by simp), if_pos (by rfl), if_pos (by rfl)]
theorem qt_92n : qt (f + 1) (92 :: 110 :: r) out = (qt f r (out ++ [10])).map fun x => (x.1 + 2, x.2) := by
  rw [qt, if_neg (by simp), if_neg (by simp), if_neg (by simp), if_pos (by rfl), if_neg (by simp), if_pos (by rfl)]
  rfl
theorem qt_92c (h : c = 34 ∨ c = 92) : qt (f + 1) (92 :: c :: r) out = (qt f r (out ++ [c])).map fun x => (x.1 + 2, x.2) := by
  rw [qt, if_neg (by simp), if_neg (by simp), if_neg (by simp), if_pos (by rfl), if_neg (by simp), if_neg (by rcases h with rfl | rfl <;> simp), if_pos (by exact h)]
  rfl
theorem qt_92o (h1 : c ≠ 110) (h2 : c ≠ 34) (h3 : c ≠ 92) : qt f (92 :: c :: r) out = none := by
  cases f with
  | zero => rfl
  | succ f => rw [qt, if_neg (by simp), if_neg (by simp), if_neg (by simp), if_pos (by rfl), if_neg (by simp), if_neg (by simpa using h1), if_neg (by simp [h2, h3])]
theorem qt_o (h1 : b ≠ 34) (h2 : b ≠ 10) (h3 : b ≠ 92) : qt (f + 1) (b :: r) out = (qt f r (out ++ [b])).map fun x => (x.1 + 1, x.2) := by
  rw [qt, if_neg (by simp), if_neg (by simpa using h1), if_neg (by simpa using h2), if_neg (by simpa using h3)]
  rfl
end
theorem map_add {o : Option (Nat × Str)} {a b c : Nat} (h : a + b = c) : (o.map fun x => (x.1 + a, x.2)).map (fun x => (x.1 + b, x.2)) = o.map fun x => (x.1 + c, x.2) := by
  subst h
  rw [Option.map_map]
  congr 1
  funext x
  simp [Nat.add_assoc]
theorem drop_at {l : Str} {j : Nat} {b : UInt8} (h : l[j]? = some b) : l.drop j = b :: l.drop (j + 1) := by
  obtain ⟨h1, h2⟩ := List.getElem?_eq_some_iff.1 h
  rw [List.drop_eq_getElem_cons h1, h2]

set_option maxHeartbeats 4000000 in
theorem quotedRef_q (t : Str) (w : World) (ht : t.length ≤ 1048576) (h34 : t[0]? = some 34) (hT : Tabs w) :
    Calls Tryd.prog 34 #[.string ⟨t.toArray⟩] w fun e w' => e = quRes (quotedR t) ∧ Below w.heap.size w w' := by
  obtain ⟨L, hL⟩ : ∃ L, t.length = L := ⟨_, rfl⟩
  have HL := Lib.hid hL
  have hlt0 : 0 < t.length := (List.getElem?_eq_some_iff.1 h34).1
  have hL1 : 1 ≤ L := by omega
  rw [hL] at ht
  obtain ⟨RES, hRES⟩ : ∃ x, quotedR t = x := ⟨_, rfl⟩
  rw [hRES]
  have hq : (qt (L - 1) (t.drop 1) []).map (fun x => (x.1 + 1, x.2)) = RES := by
    rw [← hRES]
    unfold quotedR
    rw [if_pos (by rw [List.head?_eq_getElem?]; exact h34), hL]
  have HQ := Lib.hid hq
  have E0 : ((⟨t.toArray⟩ : ByteArray)[0]'(by simpa [ByteArray.size] using hlt0)).toNat = 34 := by rw [byte_at' h34]; rfl
  have htne : (t == []) = false := by rw [beq_eq_false_iff_ne]; intro e; rw [e] at hlt0; simp at hlt0
  clear hL hq hRES h34
  go_enter Tryd.func34, Tryd.ntmps34
  go_wp2_with fail
  go_loopw [4, 5] (fun ov iv wr => ∃ (j f : Nat) (out : Str), 1 ≤ j ∧ j ≤ L ∧ iv = .int .i64 j ∧ L ≤ f + j ∧ out.length ≤ j ∧ Hid ((qt f (t.drop j) out).map (fun x => (x.1 + j, x.2)) = RES) ∧ wr.ownsRow w.heap.size 5 1 ov out.length (Lib.byteCells out) ∧ Below w.heap.size w wr) (fun _ iv _ => L - (intOf iv).toNat)
  case atStart => exact ⟨1, L - 1, [], Nat.le_refl _, hL1, rfl, by omega, Nat.zero_le _, HQ, World.ownsRow_nil _ _ _ _, Below.refl _ _⟩
  case round =>
    obtain ⟨j, f, out, hj1, hj, rfl, hf, hol, hqt, hown, hb⟩ := hrel
    obtain ⟨A3, c3, rfl⟩ := own_form hown
    have hszw := hb.size
    by_cases hlt : j < L
    · have hltr : j < t.length := by rw [HL.out]; exact hlt
      obtain ⟨x, hx⟩ : ∃ x, t[j]? = some x := ⟨_, List.getElem?_eq_getElem hltr⟩
      have EX : ((⟨t.toArray⟩ : ByteArray)[j]'(by simpa [ByteArray.size] using hltr)).toNat = x.toNat := by rw [byte_at' hx]
      rw [drop_at hx] at hqt
      obtain ⟨f, rfl⟩ : ∃ g, f = g + 1 := ⟨f - 1, by omega⟩
      clear hx
      by_cases h34 : x = 34
      · subst h34
        have hcv := conv_any hown
        have HCV := hcv 0
        have HCV0 : (convert 59 9 (.slice A3 out.length c3)).run Tryd.prog wr = .ok (.string ⟨out.toArray⟩) wr := HCV
        clear hcv HCV
        cases hv : Lib.validD out with
        | false =>
          have hres : RES = none := by rw [← hqt.out, qt_34n hv]; rfl
          subst hres
          have hlt' : letters out = none := by rw [valid_letters] at hv; cases h : letters out with
            | none => rfl
            | some _ => rw [h] at hv; cases hv
          have HLT := Lib.hid hlt'
          clear hqt HQ hv hlt'
          go_wp2_with fail
          refine (letters_any out wr (by omega) (hT.below hb)).mono ?_
          rintro e w1 ⟨hb1, he⟩
          rw [HLT.out] at he
          obtain rfl := he
          have hb2 := chain hb hb1
          clear HCV0 hown hb hb1
          go_wp2_with fail
          go_ret2
          exact ⟨rfl, hb2⟩
        | true =>
          have hres : RES = some (1 + j, out) := by rw [← hqt.out, qt_34 hv]; rfl
          subst hres
          obtain ⟨rs, hrs⟩ : ∃ rs, letters out = some rs := by rw [valid_letters] at hv; exact Option.isSome_iff_exists.1 hv
          have HLT := Lib.hid hrs
          clear hqt HQ hv hrs
          go_wp2_with fail
          refine (letters_any out wr (by omega) (hT.below hb)).mono ?_
          rintro e w1 ⟨hb1, he⟩
          rw [HLT.out] at he
          obtain ⟨v, rfl, -⟩ := he
          have hb2 := chain hb hb1
          have hown1 := own_keep hown hb1 (Nat.le_refl _)
          have HCV1 := conv_any hown1
          clear HCV0 hown hb hb1
          have z1 : IntKind.i64.wrap ((j : Int) + 1) = (j : Int) + 1 := Go.IntWalk.i64_in _ (by omega)
          go_wp2_with fail
          go_quiet (fail)
          have hb3 := below_drewN hb2 nq
          clear hb2 HCV1 hown1
          generalize w1.drewN nq = w2 at hb3 ⊢
          go_wp2_with fail
          go_ret2
          refine ⟨?_, hb3⟩
          simp only [quRes]
          congr 3
          first | (simp; omega) | rfl
      · by_cases h10 : x = 10
        · subst h10
          have hres : RES = none := by rw [← hqt.out, qt_10]; rfl
          subst hres
          clear hqt HQ h34
          go_wp2_with fail
          go_ret2
          exact ⟨rfl, hb⟩
        · by_cases h92 : x = 92
          · subst h92
            clear h34 h10
            by_cases hj2 : j + 1 < L
            · have hltr2 : j + 1 < t.length := by rw [HL.out]; exact hj2
              obtain ⟨c, hc⟩ : ∃ c, t[j + 1]? = some c := ⟨_, List.getElem?_eq_getElem hltr2⟩
              have EC : ((⟨t.toArray⟩ : ByteArray)[j + 1]'(by simpa [ByteArray.size] using hltr2)).toNat = c.toNat := by rw [byte_at' hc]
              rw [drop_at hc] at hqt
              have hzl : (j : Int) + 1 < (t.length : Int) := by omega
              clear hc
              by_cases c110 : c = 110
              · subst c110
                have hnx := hqt.out
                rw [qt_92n, map_add (show 2 + j = j + 2 by omega)] at hnx
                have HNX := Lib.hid hnx
                clear hnx hqt
                go_wp2_with (at_builtin; go_must (refine wpList_app1 rt_u8 wr (.int .u8 10) rfl (.tmp 61) (.tmp 62) rfl w.heap.size (.slice A3 out.length c3) out.length (Lib.byteCells out) rfl hown rfl rfl (by omega) (by omega) hszw ?_; intro v3 w3 o1 o2 o3 o4))
                have hfin : w3.ownsRow w.heap.size 5 1 v3 (out ++ [10]).length (Lib.byteCells (out ++ [10])) := by rw [List.length_append, Lib.byteCells_append]; exact o1
                refine ⟨⟨j + 2, f, out ++ [10], by omega, by omega, by go_num, by omega, by rw [List.length_append, List.length_singleton]; omega, HNX, hfin, hb.trans o4⟩, ?_⟩
                simp [intOf] <;> omega
              · have c110z : ((c.toNat : Int) == 110) = false := by rw [beq_eq_false_iff_ne]; exact u8z c110 (by decide)
                by_cases c34 : c = 34
                · subst c34
                  have hnx := hqt.out
                  rw [qt_92c (.inl rfl), map_add (show 2 + j = j + 2 by omega)] at hnx
                  have HNX := Lib.hid hnx
                  clear hnx hqt c110
                  go_wp2_with (at_builtin; go_must (refine wpList_app1 rt_u8 wr (.int .u8 34) rfl (.tmp 81) (.tmp 85) rfl w.heap.size (.slice A3 out.length c3) out.length (Lib.byteCells out) rfl hown rfl rfl (by omega) (by omega) hszw ?_; intro v3 w3 o1 o2 o3 o4))
                  have hfin : w3.ownsRow w.heap.size 5 1 v3 (out ++ [34]).length (Lib.byteCells (out ++ [34])) := by rw [List.length_append, Lib.byteCells_append]; exact o1
                  refine ⟨⟨j + 2, f, out ++ [34], by omega, by omega, by go_num, by omega, by rw [List.length_append, List.length_singleton]; omega, HNX, hfin, hb.trans o4⟩, ?_⟩
                  simp [intOf] <;> omega
                · have c34z : ((c.toNat : Int) == 34) = false := by rw [beq_eq_false_iff_ne]; exact u8z c34 (by decide)
                  by_cases c92 : c = 92
                  · subst c92
                    have hnx := hqt.out
                    rw [qt_92c (.inr rfl), map_add (show 2 + j = j + 2 by omega)] at hnx
                    have HNX := Lib.hid hnx
                    clear hnx hqt c110 c34
                    go_wp2_with (at_builtin; go_must (refine wpList_app1 rt_u8 wr (.int .u8 92) rfl (.tmp 81) (.tmp 85) rfl w.heap.size (.slice A3 out.length c3) out.length (Lib.byteCells out) rfl hown rfl rfl (by omega) (by omega) hszw ?_; intro v3 w3 o1 o2 o3 o4))
                    have hfin : w3.ownsRow w.heap.size 5 1 v3 (out ++ [92]).length (Lib.byteCells (out ++ [92])) := by rw [List.length_append, Lib.byteCells_append]; exact o1
                    refine ⟨⟨j + 2, f, out ++ [92], by omega, by omega, by go_num, by omega, by rw [List.length_append, List.length_singleton]; omega, HNX, hfin, hb.trans o4⟩, ?_⟩
                    simp [intOf] <;> omega
                  · have c92z : ((c.toNat : Int) == 92) = false := by rw [beq_eq_false_iff_ne]; exact u8z c92 (by decide)
                    have hres : RES = none := by rw [← hqt.out, qt_92o c110 c34 c92]; rfl
                    subst hres
                    clear hqt HQ c110 c34 c92
                    go_wp2_with fail
                    go_ret2
                    exact ⟨rfl, hb⟩
            · have hzl : ¬ (j : Int) + 1 < (t.length : Int) := by have := HL.out; omega
              have hres : RES = none := by
                rw [← hqt.out, List.drop_of_length_le (by have := HL.out; omega), qt_92e]; rfl
              subst hres
              clear hqt HQ
              go_wp2_with fail
              go_ret2
              exact ⟨rfl, hb⟩
          · have hnx := hqt.out
            rw [qt_o h34 h10 h92, map_add (show 1 + j = j + 1 by omega)] at hnx
            have HNX := Lib.hid hnx
            have x34 : ((x.toNat : Int) == 34) = false := by rw [beq_eq_false_iff_ne]; exact u8z h34 (by decide)
            have x10 : ((x.toNat : Int) == 10) = false := by rw [beq_eq_false_iff_ne]; exact u8z h10 (by decide)
            have x92 : ((x.toNat : Int) == 92) = false := by rw [beq_eq_false_iff_ne]; exact u8z h92 (by decide)
            clear hnx hqt h34 h10 h92
            go_wp2_with (at_builtin; go_must (refine wpList_app1 rt_u8 wr (.int .u8 x.toNat) rfl (.tmp 24) (.tmp 28) rfl w.heap.size (.slice A3 out.length c3) out.length (Lib.byteCells out) rfl hown rfl rfl (by omega) (by omega) hszw ?_; intro v3 w3 o1 o2 o3 o4))
            have hfin : w3.ownsRow w.heap.size 5 1 v3 (out ++ [x]).length (Lib.byteCells (out ++ [x])) := by rw [List.length_append, Lib.byteCells_append]; exact o1
            refine ⟨⟨j + 1, f, out ++ [x], by omega, by omega, by go_num, by omega, by rw [List.length_append, List.length_singleton]; omega, HNX, hfin, hb.trans o4⟩, ?_⟩
            simp [intOf] <;> omega
    · have hres : RES = none := by
        rw [← hqt.out, List.drop_of_length_le (by have := HL.out; omega), qt_end]; rfl
      subst hres
      have hzl : ¬ (j : Int) < (t.length : Int) := by have := HL.out; omega
      clear hqt HQ
      go_wp2_with fail
      go_ret2
      exact ⟨rfl, hb⟩
end Go.Proofs.YtmklodgcbldndaaDoor
namespace Go.Proofs.YtmklodgcbldndaaDoor
open Go.RowKit Go.Proofs

set_option maxRecDepth 100000
set_option maxHeartbeats 2000000 in
theorem writeRune_any (B b : Nat) (l : Str) (r : Int) (w : World) (hr0 : -2147483648 ≤ r) (hr1 : r ≤ 2147483647) (h : IsBld B b l w) (hlen : l.length + 4 ≤ 140737488355328) (hBw : B ≤ w.heap.size) :
    Calls Tryd.prog 55 #[.pointer (some ⟨b, 0, none⟩), .int .i32 r] w fun e w' => (∃ k : Int, e = .returned (.tuple #[.int .i64 k, .nilIface])) ∧ IsBld B b (l ++ Lib.encodeRune r) w' ∧ Below B w w' := by
  go_enter Tryd.func55, Tryd.ntmps55
  go_wp2_with fail
  refine (copyCheck_any B b _ _ h).mono ?_
  rintro e w1 ⟨rfl, h1, hb1⟩
  obtain ⟨hB, v, hbk, hown, hne⟩ := h1
  rw [Lib.byteCells_length] at hown
  obtain ⟨A0, c00, rfl⟩ := own_form hown
  have c0 : w1.cell? ⟨b, 0, none⟩ = some (.pointer (some ⟨b, 0, none⟩)) := by rw [Lib.cell_of_heap hbk]; rfl
  have c1 : w1.cell? ⟨b, 1, none⟩ = some (.slice A0 l.length c00) := by rw [Lib.cell_of_heap hbk]; rfl
  go_wp2_with fail
  refine (Tryd.utf8_AppendRune_plain B _ l.length (Lib.byteCells l) r hr0 hr1 _ hown hlen (Nat.le_trans hBw hb1.size)).mono ?_
  rintro e w2 ⟨v', rfl, hown', o, hgrow⟩
  have hlt : b < w1.heap.size := (Array.getElem?_eq_some_iff.1 hbk).1
  have hb2 : w2.heap[b]? = some (.cells #[.pointer (some ⟨b, 0, none⟩), .slice A0 l.length c00] 78 (0, 0)) := by
    rw [hgrow.block b (by simp; omega) (fun e => hne e.symm), Lib.alloc_old w1 _ b hlt]
    exact hbk
  have d0 : w2.cell? ⟨b, 0, none⟩ = some (.pointer (some ⟨b, 0, none⟩)) := by rw [Lib.cell_of_heap hb2]; rfl
  have d1 : w2.cell? ⟨b, 1, none⟩ = some (.slice A0 l.length c00) := by rw [Lib.cell_of_heap hb2]; rfl
  have f1 : w2.frozen? ⟨b, 1, none⟩ = false := Lib.frozen_of_heap hb2 1
  obtain ⟨A1, c10, rfl⟩ := own_form hown'
  have HO := Lib.hid hown'
  have HG := Lib.hid hgrow
  have HOW := Lib.hid hown
  clear hown' hgrow hown
  go_wp2_with fail
  go_ret2
  have e : Lib.byteCells (l ++ Lib.encodeRune r) = Lib.byteCells l ++ Lib.runeCells r := by rw [Lib.byteCells_append, Lib.byteCells_encodeRune]
  refine ⟨⟨_, rfl⟩, ?_, ?_⟩
  · rw [IsBld, e]
    exact Or.inr (Lib.BuilderAt.put (T := 78) (e := 5) hB hb2 (bs' := Lib.byteCells l ++ Lib.runeCells r) (by simpa [Lib.byteCells_length] using HO.out) (by decide))
  · exact ((hb1.alloc (by have := hb1.size; omega) _).grown HG.out (by have := hb1.size; simp; omega) (fun k hk => (HOW.out.lt k hk).1)).setCell (p := ⟨b, 1, none⟩) hB _
theorem enc_rune {l : Str} (h0 : l ≠ []) (hb : ¬ ((Lib.decodeL l).1 = 65533 ∧ (Lib.decodeL l).2 = 1)) : Lib.encodeRune ((Lib.decodeL l).1 : Int) = enc (Lib.decodeL l).1 := by
  have hw := Lib.decodeL_width l
  obtain ⟨h1, h2, -⟩ := dec_enc l h0 (fun e => hb ⟨e.1, by omega⟩)
  rw [Lib.encode_decode l h0 hb, ← h2]
  conv => lhs; arg 2; rw [h1]
  rw [List.take_left]
theorem dec_le (l : Str) : (Lib.decodeL l).1 ≤ 1114111 := by
  rw [Lib.decodeL_N]
  unfold Lib.decodeN
  have l0 : (l.getD 0 0).toNat < 256 := (l.getD 0 0).toNat_lt
  repeat' split
  all_goals (show _ ≤ _; omega)
theorem bld_keep {B b : Nat} {l : Str} {w w' : World} (h : IsBld B b l w) (hb : Below w.heap.size w w') : IsBld B b l w' := by
  have key : ∀ p, Lib.BuilderAt 78 5 B b p (Lib.byteCells l) w → Lib.BuilderAt 78 5 B b p (Lib.byteCells l) w' := by
    rintro p ⟨h1, v, h2, h3, h4⟩
    have hlt := (Array.getElem?_eq_some_iff.1 h2).1
    exact ⟨h1, v, (hb.block b hlt).trans h2, own_keep h3 hb (Nat.le_refl _), h4⟩
  exact h.imp (key _) (key _)
theorem pq_end (f : Nat) (out : Str) : pq f [] out = none := by cases f <;> simp [pq]
section
variable {f : Nat} {l out : Str}
theorem pq_bad (h : ((Lib.decodeL l).1 = 65533 ∧ (Lib.decodeL l).2 = 1) ∨ (Lib.decodeL l).1 = 10) : pq f l out = none := by
  cases f with
  | zero => rfl
  | succ f =>
    rw [pq]
    split
    · rfl
    · first | rfl | rw [if_pos h]
variable (hg : ¬ (((Lib.decodeL l).1 = 65533 ∧ (Lib.decodeL l).2 = 1) ∨ (Lib.decodeL l).1 = 10)) (h0 : l ≠ [])
include hg h0
theorem pq_q1 (h : (Lib.decodeL l).1 = 34) (hl : 1 < l.length) : pq f l out = none := by
  cases f with
  | zero => rfl
  | succ f => rw [pq, if_neg h0, if_neg hg, if_pos h, if_pos hl]
theorem pq_q2 (h : (Lib.decodeL l).1 = 34) (hl : ¬ 1 < l.length) : pq (f + 1) l out = some out := by rw [pq, if_neg h0, if_neg hg, if_pos h, if_neg hl]
theorem pq_e1 (h : (Lib.decodeL l).1 = 92) (hl : l.length = 1) : pq f l out = none := by
  cases f with
  | zero => rfl
  | succ f => rw [pq, if_neg h0, if_neg hg, if_neg (by omega), if_pos h, if_pos hl]
theorem pq_e2 (h : (Lib.decodeL l).1 = 92) (hl : ¬ l.length = 1) {c : UInt8} (hc : l.getD 1 0 = c) (h2 : c = 92 ∨ c = 34) : pq (f + 1) l out = pq f (l.drop 2) (out ++ [c]) := by
  rw [pq, if_neg h0, if_neg hg, if_neg (by omega), if_pos h, if_neg hl, hc, if_pos h2]
theorem pq_e3 (h : (Lib.decodeL l).1 = 92) (hl : ¬ l.length = 1) (hc : l.getD 1 0 = 110) : pq (f + 1) l out = pq f (l.drop 2) (out ++ [10]) := by
  rw [pq, if_neg h0, if_neg hg, if_neg (by omega), if_pos h, if_neg hl, hc, if_neg (by decide), if_pos rfl]
theorem pq_e4 (h : (Lib.decodeL l).1 = 92) (hl : ¬ l.length = 1) {c : UInt8} (hc : l.getD 1 0 = c) (h1 : c ≠ 92) (h2 : c ≠ 34) (h3 : c ≠ 110) : pq f l out = none := by
  cases f with
  | zero => rfl
  | succ f => rw [pq, if_neg h0, if_neg hg, if_neg (by omega), if_pos h, if_neg hl, hc, if_neg (by simp [h1, h2]), if_neg h3]
theorem pq_d (h1 : (Lib.decodeL l).1 ≠ 34) (h2 : (Lib.decodeL l).1 ≠ 92) : pq (f + 1) l out = pq f (l.drop (Lib.decodeL l).2) (out ++ Lib.encodeRune (Lib.decodeL l).1) := by
  rw [pq, if_neg h0, if_neg hg, if_neg h1, if_neg h2, enc_rune h0 (fun e => hg (.inl e))]
end
abbrev vAgg (r : VR) : Value := .agg #[.int .i64 r.1, .int .i64 r.2.1, .string ⟨r.2.2.1.toArray⟩]
abbrev vRes (r : VR) : Value := .tuple #[vAgg r, .int .i64 r.2.2.2]
theorem idx_any (x : UInt8) (w : World) : Calls Tryd.prog 54 #[.string ⟨#[92, 34, 110]⟩, .int .u8 x.toNat] w fun e w' => e = .returned (.int .i64 (if x = 92 then 0 else if x = 34 then 1 else if x = 110 then 2 else -1)) ∧ w' = w := by
  refine (Tryd.strings_IndexByte ⟨#[92, 34, 110]⟩ x.toNat w).mono ?_
  rintro e w' ⟨rfl, rfl⟩
  refine ⟨?_, rfl⟩
  have e : ((x.toNat : Int)).toNat.toUInt8 = x := by simp
  rw [e]
  have : Lib.indexByte ([92, 34, 110] : List UInt8) x = if x = 92 then 0 else if x = 34 then 1 else if x = 110 then 2 else -1 := by
    have hb : ∀ a b : UInt8, (a == b) = decide (b = a) := fun a b => by rw [Bool.eq_iff_iff, beq_iff_eq, decide_eq_true_eq]; exact eq_comm
    simp only [Lib.indexByte, hb, decide_eq_true_eq]
    by_cases h1 : x = 92
    · rw [if_pos h1, if_pos h1]
    · rw [if_neg h1, if_neg h1]
      by_cases h2 : x = 34
      · rw [if_pos h2, if_pos h2]; rfl
      · rw [if_neg h2, if_neg h2]
        by_cases h3 : x = 110
        · rw [if_pos h3, if_pos h3]; rfl
        · rw [if_neg h3, if_neg h3]; rfl
  exact congrArg (fun k => Ending.returned (.int .i64 k)) this
set_option maxHeartbeats 4000000 in
theorem quoted_any (t : Str) (w : World) (ht : t.length ≤ 1048576) (h34 : t.head? = some 34) (hT : Tabs w) :
    Calls Tryd.prog 32 #[.string ⟨t.toArray⟩] w fun e w' => e = .returned (vRes (qVal (pq (t.length - 1) (t.drop 1) []))) ∧ Below w.heap.size w w' := by
  obtain ⟨L, hL⟩ : ∃ L, t.length = L := ⟨_, rfl⟩
  have HL := Lib.hid hL
  have hL1 : 1 ≤ L := by
    rw [← hL]
    cases t with
    | nil => simp at h34
    | cons _ _ => simp
  rw [hL] at ht ⊢
  obtain ⟨PQ, hPQ⟩ : ∃ x, pq (L - 1) (t.drop 1) [] = x := ⟨_, rfl⟩
  have HPQ := Lib.hid hPQ
  rw [hPQ]
  clear hL hPQ h34
  have hz0 : (w.alloc (.cells #[.int .i64 0, .int .i64 0, .string ⟨#[]⟩] 23)).cell? ⟨w.heap.size, 0, none⟩ = some (.int .i64 0) := by simp [go_sem]
  have hz1 : (w.alloc (.cells #[.int .i64 0, .int .i64 0, .string ⟨#[]⟩] 23)).cell? ⟨w.heap.size, 1, none⟩ = some (.int .i64 0) := by simp [go_sem]
  have hz2 : (w.alloc (.cells #[.int .i64 0, .int .i64 0, .string ⟨#[]⟩] 23)).cell? ⟨w.heap.size, 2, none⟩ = some (.string ⟨#[]⟩) := by simp [go_sem]
  have hzf : ∀ j, (w.alloc (.cells #[.int .i64 0, .int .i64 0, .string ⟨#[]⟩] 23)).frozen? ⟨w.heap.size, j, none⟩ = false := fun j => by simp [go_sem]
  have hbV : Below w.heap.size w (w.alloc (.cells #[.int .i64 0, .int .i64 0, .string ⟨#[]⟩] 23)) := by go_grown
  have hsV : (w.alloc (.cells #[.int .i64 0, .int .i64 0, .string ⟨#[]⟩] 23)).heap.size = w.heap.size + 1 := by simp
  go_enter Tryd.func32, Tryd.ntmps32
  go_wp2_with fail
  obtain ⟨V, hV⟩ : ∃ V, w.alloc (.cells #[.int .i64 0, .int .i64 0, .string ⟨#[]⟩] 23) = V := ⟨_, rfl⟩
  rw [hV] at hz0 hz1 hz2 hzf hbV hsV ⊢
  clear hV
  have hTV := hT.below hbV
  have h0 := Lib.hid (isBld_new V)
  have hb0 : Below V.heap.size V (V.alloc (.cells #[.pointer none, .slice none 0 0] 78)) := by go_grown
  have HZ := Lib.hid (And.intro hz0 (And.intro hz1 (And.intro hz2 hzf)))
  have hsV2 := Lib.hid hsV
  obtain ⟨q, hq⟩ : ∃ q, w.heap.size = q := ⟨_, rfl⟩
  have hqv : q < V.heap.size := by omega
  rw [← hsV]
  obtain ⟨W, hW⟩ : ∃ W, V.alloc (.cells #[.pointer none, .slice none 0 0] 78) = W := ⟨_, rfl⟩
  rw [hW] at h0 hb0 ⊢
  clear hW hz0 hz1 hz2 hzf hsV
  rw [hq] at HZ ⊢
  go_loopw [5] (fun i wr => ∃ (j f : Nat) (out : Str), 1 ≤ j ∧ j ≤ L ∧ i = .int .i64 j ∧ L ≤ f + j ∧ out.length ≤ j ∧ Hid (pq f (t.drop j) out = PQ) ∧ Hid (IsBld V.heap.size V.heap.size out wr) ∧ Below V.heap.size V wr) (fun i _ => L - (intOf i).toNat)
  case atStart => exact ⟨1, L - 1, [], Nat.le_refl _, hL1, rfl, by omega, Nat.zero_le _, HPQ, h0, hb0⟩
  case round =>
    clear h0 hb0
    obtain ⟨j, f, out, hj1, hj, rfl, hf, hol, hpq, hB, hb⟩ := hrel
    have k0 := cell_keep HZ.out.1 hb
    have k1 := cell_keep HZ.out.2.1 hb
    have k2 := cell_keep HZ.out.2.2.1 hb
    have kf : ∀ i, wr.frozen? ⟨q, i, none⟩ = false := fun i => (hb.frozen (p := ⟨q, i, none⟩) hqv).trans (HZ.out.2.2.2 i)
    by_cases hlt : j < L
    · have hlt2 : j < t.length := by rw [HL.out]; exact hlt
      have l0 : t.drop j ≠ [] := by
        intro e
        have := congrArg List.length e
        rw [List.length_drop] at this
        simp at this
        omega
      obtain ⟨l, hl⟩ : ∃ l, t.drop j = l := ⟨_, rfl⟩
      have hll : l.length = L - j := by rw [← hl, List.length_drop, HL.out]
      have hdec := decode_any l (hl ▸ l0) wr (hTV.below hb)
      have hw := Lib.decodeL_width l
      have hle := dec_le l
      have HLL := Lib.hid hl
      have HLN := Lib.hid hll
      rw [hl] at hpq l0
      have HDEC := Lib.hid hdec
      have L0 := Lib.hid l0
      clear hll hdec l0
      go_wp2_with fail
      refine HDEC.out.mono ?_
      rintro e w1 ⟨rfl, hb1⟩
      clear hl
      obtain ⟨R, hR⟩ : ∃ R, (Lib.decodeL l).1 = R := ⟨_, rfl⟩
      obtain ⟨N, hN⟩ : ∃ N, (Lib.decodeL l).2 = N := ⟨_, rfl⟩
      have HR := Lib.hid hR
      have HN := Lib.hid hN
      rw [hR] at hle ⊢
      rw [hN] at hw ⊢
      have K0 := cell_keep k0 hb1
      have K1 := cell_keep k1 hb1
      have K2 := cell_keep k2 hb1
      have kf0 : w1.frozen? ⟨q, 0, none⟩ = false := (hb1.frozen (p := ⟨q, 0, none⟩) (cell_lt k0)).trans (kf 0)
      have kf1 : w1.frozen? ⟨q, 1, none⟩ = false := (hb1.frozen (p := ⟨q, 1, none⟩) (cell_lt k1)).trans (kf 1)
      have kf2 : w1.frozen? ⟨q, 2, none⟩ = false := (hb1.frozen (p := ⟨q, 2, none⟩) (cell_lt k2)).trans (kf 2)
      have hB1 := Lib.hid (bld_keep hB.out hb1)
      have hbw1 : Below V.heap.size V w1 := chain hb hb1
      clear hR hN k0 k1 k2 kf hB HDEC hb hb1
      have RB : Hid (∀ u0 u1 u2 : Value, Below w.heap.size w (((w1.setCell ⟨q, 0, none⟩ u0).setCell ⟨q, 1, none⟩ u1).setCell ⟨q, 2, none⟩ u2)) := Lib.hid fun u0 u1 u2 => by
        have h := hbV.trans (hbw1.mono hbV.size)
        exact ((h.setCell (p := ⟨q, 0, none⟩) (Nat.le_of_eq hq) _).setCell (p := ⟨q, 1, none⟩) (Nat.le_of_eq hq) _).setCell (p := ⟨q, 2, none⟩) (Nat.le_of_eq hq) _
      by_cases hbad : (R = 65533 ∧ N = 1) ∨ R = 10
      · have HRES : Hid (PQ = none) := Lib.hid (by rw [← hpq.out]; exact pq_bad (by rw [HR.out, HN.out]; exact hbad))
        clear hpq
        rcases hbad with ⟨rfl, rfl⟩ | rfl
        · clear HR HN
          go_wp2_with fail
          refine bodyPost_ret (v := vRes (0, 0, [], 3)) (by simp [results, Tryd.results32, go_sem, K0, K1, K2]) rfl ⟨by rw [HRES.out]; rfl, (by first | exact RB.out _ _ _ | exact hq ▸ RB.out _ _ _)⟩
        · clear HR HN
          go_wp2_with fail
          refine bodyPost_ret (v := vRes (0, 0, [], 3)) (by simp [results, Tryd.results32, go_sem, K0, K1, K2]) rfl ⟨by rw [HRES.out]; rfl, (by first | exact RB.out _ _ _ | exact hq ▸ RB.out _ _ _)⟩
      · have HG : Hid (¬ (((Lib.decodeL l).1 = 65533 ∧ (Lib.decodeL l).2 = 1) ∨ (Lib.decodeL l).1 = 10)) := Lib.hid (by rw [HR.out, HN.out]; exact hbad)
        have hgood : ¬ ((Lib.decodeL l).1 = 65533 ∧ (Lib.decodeL l).2 < 2) := fun e => HG.out (.inl ⟨e.1, by rw [HN.out] at *; omega⟩)
        have hNl : N ≤ l.length := by
          have h := (dec_enc l L0.out hgood).1
          have h2 := (dec_enc l L0.out hgood).2.1
          rw [HN.out] at h2
          rw [h, List.length_append, h2]
          exact Nat.le_add_right _ _
        have hf1 : ∃ g, f = g + 1 := ⟨f - 1, by omega⟩
        obtain ⟨f, rfl⟩ := hf1
        by_cases h34 : R = 34
        · subst h34
          clear hbad hgood
          by_cases hl1 : j + 1 < L
          · have hlz : (j : Int) + 1 < (t.length : Int) := by have := HL.out; omega
            have HRES : Hid (PQ = none) := Lib.hid (by rw [← hpq.out]; exact pq_q1 HG.out L0.out HR.out (by rw [HLN.out]; omega))
            clear hpq
            go_wp2_with fail
            refine bodyPost_ret (v := vRes (0, 0, [], 3)) (by simp [results, Tryd.results32, go_sem, K0, K1, K2]) rfl ⟨by rw [HRES.out]; rfl, (by first | exact RB.out _ _ _ | exact hq ▸ RB.out _ _ _)⟩
          · have hlz : ¬ (j : Int) + 1 < (t.length : Int) := by have := HL.out; omega
            have hlen := Tryd.Builder_Len V.heap.size V.heap.size (Lib.byteCells out) w1 hB1.out
            rw [Lib.byteCells_length] at hlen
            have HLEN := Lib.hid hlen
            have hpo : PQ = some out := by rw [← hpq.out]; exact pq_q2 HG.out L0.out HR.out (by rw [HLN.out]; omega)
            have HPO := Lib.hid hpo
            clear hlen hpq hpo HG
            by_cases h100 : 100 < out.length
            · have hz100 : (100 : Int) < (out.length : Int) := by omega
              have HRES : Hid (qVal PQ = (0, 0, [], 2)) := Lib.hid (by rw [HPO.out]; exact if_pos h100)
              go_wp2_with fail
              refine HLEN.out.mono ?_
              rintro e w2 ⟨rfl, rfl⟩
              go_wp2_with fail
              refine bodyPost_ret (v := vRes (0, 0, [], 2)) (by simp [results, Tryd.results32, go_sem, K0, K1, K2]) rfl ⟨by rw [HRES.out], (by first | exact RB.out _ _ _ | exact hq ▸ RB.out _ _ _)⟩
            · have hz100 : ¬ (100 : Int) < (out.length : Int) := by omega
              have HRES : Hid (qVal PQ = (3, 0, out, 0)) := Lib.hid (by rw [HPO.out]; exact if_neg h100)
              go_wp2_with fail
              refine HLEN.out.mono ?_
              rintro e w2 ⟨rfl, rfl⟩
              go_wp2_with fail
              refine (Tryd.Builder_String_any _ _ _ _ hB1.out hbw1.size).mono ?_
              rintro e w3 ⟨rfl, hb3⟩
              have hwq : q < w2.heap.size := cell_lt K0
              have M0 := (hb3.cell (p := ⟨q, 0, none⟩) hqv).trans K0
              have M1 := (hb3.cell (p := ⟨q, 1, none⟩) hqv).trans K1
              have M2 := (hb3.cell (p := ⟨q, 2, none⟩) hqv).trans K2
              have mf0 := (hb3.frozen (p := ⟨q, 0, none⟩) hqv).trans kf0
              have mf1 := (hb3.frozen (p := ⟨q, 1, none⟩) hqv).trans kf1
              have mf2 := (hb3.frozen (p := ⟨q, 2, none⟩) hqv).trans kf2
              have hbw3 : Below V.heap.size V w3 := hbw1.trans hb3
              have RB3 : Hid (∀ u0 u1 u2 : Value, Below w.heap.size w (((w3.setCell ⟨q, 0, none⟩ u0).setCell ⟨q, 1, none⟩ u1).setCell ⟨q, 2, none⟩ u2)) := Lib.hid fun u0 u1 u2 => by
                have h := hbV.trans (hbw3.mono hbV.size)
                exact ((h.setCell (p := ⟨q, 0, none⟩) (Nat.le_of_eq hq) _).setCell (p := ⟨q, 1, none⟩) (Nat.le_of_eq hq) _).setCell (p := ⟨q, 2, none⟩) (Nat.le_of_eq hq) _
              clear K0 K1 K2 kf0 kf1 kf2 RB hB1
              go_wp2_with fail
              refine bodyPost_ret (v := vRes (3, 0, out, 0)) (by simp [results, Tryd.results32, go_sem, M0, M1, M2]) rfl ⟨by rw [HRES.out], (by first | exact RB3.out _ _ _ | exact hq ▸ RB3.out _ _ _)⟩
        · by_cases h92 : R = 92
          · subst h92
            clear hbad hgood h34
            have hN1 : N = 1 := by
              obtain ⟨_, -, h⟩ := first_ascii L0.out (by rw [HR.out]; omega) (fun e => by have := HR.out; omega)
              rw [← HN.out]; exact h
            subst hN1
            by_cases hl1 : j + 1 = L
            · have hlz : (j : Int) + 1 = (t.length : Int) := by have := HL.out; omega
              have HRES : Hid (PQ = none) := Lib.hid (by rw [← hpq.out]; exact pq_e1 HG.out L0.out HR.out (by rw [HLN.out]; omega))
              clear hpq
              go_wp2_with fail
              refine bodyPost_ret (v := vRes (0, 0, [], 3)) (by simp [results, Tryd.results32, go_sem, K0, K1, K2]) rfl ⟨by rw [HRES.out]; rfl, (by first | exact RB.out _ _ _ | exact hq ▸ RB.out _ _ _)⟩
            · have hlz : ¬ (j : Int) + 1 = (t.length : Int) := by have := HL.out; omega
              obtain ⟨c, hc⟩ : ∃ c, t[j + 1]? = some c := ⟨_, List.getElem?_eq_getElem (by have := HL.out; omega)⟩
              have HC := Lib.hid hc
              have hlt3 : j + 1 < t.length := by have := HL.out; omega
              have E : ((⟨t.toArray⟩ : ByteArray)[j + 1]'(by simpa [ByteArray.size] using hlt3)).toNat = c.toNat := by rw [byte_at' HC.out]
              have hcl : l.getD 1 0 = c := by
                rw [← HLL.out]
                simp only [List.getD, List.getElem?_drop, hc]
                rfl
              have HCL := Lib.hid hcl
              have hl0 : ¬ l.length = 1 := by rw [HLN.out]; omega
              have hidx := Lib.hid (idx_any c w1)
              have hlz2 : (j : Int) + 1 < (t.length : Int) := by omega
              clear hc hcl
              by_cases c92 : c = 92
              · subst c92
                have HNX := Lib.hid ((pq_e2 (f := f) (out := out) HG.out L0.out HR.out hl0 HCL.out (.inl rfl)).symm.trans hpq.out)
                rw [← HLL.out, List.drop_drop] at HNX
                rw [if_pos rfl] at hidx
                clear hpq hl0 HCL
                go_wp2_with fail
                refine hidx.out.mono ?_
                rintro e w2 ⟨rfl, rfl⟩
                go_wp2_with fail
                refine (writeByte_any _ _ _ 92 _ hB1.out (by omega) hbw1.size).mono ?_
                rintro e w2 ⟨rfl, h2, hb2⟩
                replace h2 := Lib.hid h2
                go_wp2_with fail
                go_roundw
                case rel =>
                  refine ⟨j + 2, f, out ++ [92], by omega, by omega, by go_num, by omega, by rw [List.length_append, List.length_singleton]; omega, HNX, h2, hbw1.trans hb2⟩
                case measure => simp [intOf] <;> omega
              · by_cases c34 : c = 34
                · subst c34
                  have HNX := Lib.hid ((pq_e2 (f := f) (out := out) HG.out L0.out HR.out hl0 HCL.out (.inr rfl)).symm.trans hpq.out)
                  rw [← HLL.out, List.drop_drop] at HNX
                  rw [if_neg (by decide), if_pos rfl] at hidx
                  clear hpq hl0 HCL c92
                  go_wp2_with fail
                  refine hidx.out.mono ?_
                  rintro e w2 ⟨rfl, rfl⟩
                  go_wp2_with fail
                  refine (writeByte_any _ _ _ 34 _ hB1.out (by omega) hbw1.size).mono ?_
                  rintro e w2 ⟨rfl, h2, hb2⟩
                  replace h2 := Lib.hid h2
                  go_wp2_with fail
                  go_roundw
                  case rel =>
                    refine ⟨j + 2, f, out ++ [34], by omega, by omega, by go_num, by omega, by rw [List.length_append, List.length_singleton]; omega, HNX, h2, hbw1.trans hb2⟩
                  case measure => simp [intOf] <;> omega
                · by_cases c110 : c = 110
                  · subst c110
                    have HNX := Lib.hid ((pq_e3 (f := f) (out := out) HG.out L0.out HR.out hl0 HCL.out).symm.trans hpq.out)
                    rw [← HLL.out, List.drop_drop] at HNX
                    rw [if_neg (by decide), if_neg (by decide), if_pos rfl] at hidx
                    clear hpq hl0 HCL c92 c34
                    go_wp2_with fail
                    refine hidx.out.mono ?_
                    rintro e w2 ⟨rfl, rfl⟩
                    go_wp2_with fail
                    refine (writeByte_any _ _ _ 10 _ hB1.out (by omega) hbw1.size).mono ?_
                    rintro e w2 ⟨rfl, h2, hb2⟩
                    replace h2 := Lib.hid h2
                    go_wp2_with fail
                    go_roundw
                    case rel =>
                      refine ⟨j + 2, f, out ++ [10], by omega, by omega, by go_num, by omega, by rw [List.length_append, List.length_singleton]; omega, HNX, h2, hbw1.trans hb2⟩
                    case measure => simp [intOf] <;> omega
                  · have HRES : Hid (PQ = none) := Lib.hid (by rw [← hpq.out]; exact pq_e4 HG.out L0.out HR.out hl0 HCL.out c92 c34 c110)
                    rw [if_neg c92, if_neg c34, if_neg c110] at hidx
                    clear hpq hl0 HCL c92 c34 c110
                    go_wp2_with fail
                    refine hidx.out.mono ?_
                    rintro e w2 ⟨rfl, rfl⟩
                    go_wp2_with fail
                    refine bodyPost_ret (v := vRes (0, 0, [], 3)) (by simp [results, Tryd.results32, go_sem, K0, K1, K2]) rfl ⟨by rw [HRES.out]; rfl, (by first | exact RB.out _ _ _ | exact hq ▸ RB.out _ _ _)⟩
          · have HNX : Hid (pq f (t.drop (j + N)) (out ++ Lib.encodeRune (R : Int)) = PQ) := Lib.hid (by
              have h := pq_d (f := f) (out := out) HG.out L0.out (by rw [HR.out]; exact h34) (by rw [HR.out]; exact h92)
              rw [← hpq.out, h, HR.out, HN.out, ← HLL.out, List.drop_drop])
            have hel : (Lib.encodeRune (R : Int)).length = N := by
              have h1 := enc_rune L0.out (fun e => HG.out (.inl e))
              have h2 := (dec_enc l L0.out hgood).2.1
              rw [HR.out] at h1 h2
              rw [h1, h2, HN.out]
            have hjN : j + N ≤ L := by have := HLN.out; omega
            clear hpq hgood
            have h34z : ¬ (R : Int) = 34 := by omega
            have h92z : ¬ (R : Int) = 92 := by omega
            have h10z : ¬ (R : Int) = 10 := by omega
            have hwr := Lib.hid (writeRune_any V.heap.size V.heap.size out (R : Int) w1 (by omega) (by omega) hB1.out (by omega) hbw1.size)
            by_cases h65 : R = 65533
            · have hN1 : ¬ (N : Int) = 1 := by omega
              subst h65
              clear hbad h34 h92 h34z h92z h10z HR
              go_wp2_with fail
              refine hwr.out.mono ?_
              rintro e w2 ⟨⟨k, rfl⟩, h2, hb2⟩
              replace h2 := Lib.hid h2
              go_wp2_with fail
              go_roundw
              case rel =>
                refine ⟨j + N, f, _, by omega, hjN, by go_num, by omega, ?_, HNX, h2, hbw1.trans hb2⟩
                rw [List.length_append, hel]; omega
              case measure => simp [intOf] <;> omega
            · have h65z : ¬ (R : Int) = 65533 := by omega
              clear hbad h34 h92
              go_wp2_with fail
              refine hwr.out.mono ?_
              rintro e w2 ⟨⟨k, rfl⟩, h2, hb2⟩
              replace h2 := Lib.hid h2
              go_wp2_with fail
              go_roundw
              case rel =>
                refine ⟨j + N, f, _, by omega, hjN, by go_num, by omega, ?_, HNX, h2, hbw1.trans hb2⟩
                rw [List.length_append, hel]; omega
              case measure => simp [intOf] <;> omega
    · have HRES : Hid (PQ = none) := Lib.hid (by
        rw [← hpq.out, List.drop_of_length_le (by have := HL.out; omega)]
        exact pq_end _ _)
      have hlz : ¬ (j : Int) < (t.length : Int) := by have := HL.out; omega
      have K0 := k0
      have K1 := k1
      have K2 := k2
      have kf0 := kf 0
      have kf1 := kf 1
      have kf2 := kf 2
      have RB : Hid (∀ u0 u1 u2 : Value, Below w.heap.size w (((wr.setCell ⟨q, 0, none⟩ u0).setCell ⟨q, 1, none⟩ u1).setCell ⟨q, 2, none⟩ u2)) := Lib.hid fun u0 u1 u2 => by
        have h := hbV.trans (hb.mono hbV.size)
        exact ((h.setCell (p := ⟨q, 0, none⟩) (Nat.le_of_eq hq) _).setCell (p := ⟨q, 1, none⟩) (Nat.le_of_eq hq) _).setCell (p := ⟨q, 2, none⟩) (Nat.le_of_eq hq) _
      clear hpq kf k0 k1 k2
      go_wp2_with fail
      refine bodyPost_ret (v := vRes (0, 0, [], 3)) (by simp [results, Tryd.results32, go_sem, K0, K1, K2]) rfl ⟨by rw [HRES.out]; rfl, (by first | exact RB.out _ _ _ | exact hq ▸ RB.out _ _ _)⟩
end Go.Proofs.YtmklodgcbldndaaDoor
namespace Go.Proofs.YtmklodgcbldndaaDoor
open Go.RowKit Go.Proofs

set_option maxRecDepth 100000
theorem quotedRef_any (t : Str) (w : World) (ht : t.length ≤ 1048576) (hT : Tabs w) :
    Calls Tryd.prog 34 #[.string ⟨t.toArray⟩] w fun e w' => e = quRes (quotedR t) ∧ Below w.heap.size w w' := by
  by_cases h34 : t[0]? = some 34
  · exact quotedRef_q t w ht h34 hT
  · have hres : quotedR t = none := by
      unfold quotedR
      rw [if_neg (by rw [List.head?_eq_getElem?]; exact h34)]
    rw [hres]
    cases t with
    | nil =>
      go_enter Tryd.func34, Tryd.ntmps34
      go_wp2_with fail
      go_ret2
      exact ⟨rfl, Below.refl _ _⟩
    | cons b r =>
      have hb : b ≠ 34 := fun e => h34 (by rw [e]; rfl)
      have E0 : ((⟨(b :: r).toArray⟩ : ByteArray)[0]'(by simp [ByteArray.size])).toNat = b.toNat := rfl
      have hz : ((b.toNat : Int) == 34) = false := by rw [beq_eq_false_iff_ne]; exact u8z hb (by decide)
      have hz2 : ((b.toNat : Int) != 34) = true := by rw [bne_iff_ne]; exact u8z hb (by decide)
      clear h34 hres hb
      go_enter Tryd.func34, Tryd.ntmps34
      go_wp2_with fail
      go_ret2
      exact ⟨rfl, Below.refl _ _⟩
/-- A box of a value that a call has made first. -/
theorem box3 {w w1 : World} (hb : Below w.heap.size w w1) (u0 u1 u2 : Value) : Below w.heap.size w (((w1.setCell ⟨w.heap.size, 0, none⟩ u0).setCell ⟨w.heap.size, 1, none⟩ u1).setCell ⟨w.heap.size, 2, none⟩ u2) :=
  ((hb.setCell (p := ⟨w.heap.size, 0, none⟩) (Nat.le_refl _) _).setCell (p := ⟨w.heap.size, 1, none⟩) (Nat.le_refl _) _).setCell (p := ⟨w.heap.size, 2, none⟩) (Nat.le_refl _) _
/-- The box of the value that is answered: zeros. -/
structure ZBox (w : World) (q : Nat) : Prop where
  c0 : w.cell? ⟨q, 0, none⟩ = some (.int .i64 0)
  c1 : w.cell? ⟨q, 1, none⟩ = some (.int .i64 0)
  c2 : w.cell? ⟨q, 2, none⟩ = some (.string ⟨#[]⟩)
  f : ∀ j, w.frozen? ⟨q, j, none⟩ = false
theorem ZBox.keep {w w' : World} {q : Nat} (h : ZBox w q) (hb : Below w.heap.size w w') : ZBox w' q :=
  ⟨cell_keep h.c0 hb, cell_keep h.c1 hb, cell_keep h.c2 hb, fun j => (hb.frozen (p := ⟨q, j, none⟩) (cell_lt h.c0)).trans (h.f j)⟩
theorem ZBox.new (w : World) : ZBox (w.alloc (.cells #[.int .i64 0, .int .i64 0, .string ⟨#[]⟩] 23)) w.heap.size := ⟨by simp [go_sem], by simp [go_sem], by simp [go_sem], fun j => by simp [go_sem]⟩
/-- strconv's two variables hold errors. -/
def IsErr (ev : Value) : Prop := ev = .nilIface ∨ ∃ te pe, ev = .iface te pe
structure ErrVars (w : World) : Prop where
  s : ∃ ev, w.cell? ⟨3, 0, none⟩ = some ev ∧ IsErr ev
  r : ∃ ev, w.cell? ⟨4, 0, none⟩ = some ev ∧ IsErr ev
theorem ErrVars.below {w w' : World} (h : ErrVars w) (hb : Below w.heap.size w w') : ErrVars w' :=
  ⟨let ⟨ev, h1, h2⟩ := h.s; ⟨ev, cell_keep h1 hb, h2⟩, let ⟨ev, h1, h2⟩ := h.r; ⟨ev, cell_keep h1 hb, h2⟩⟩
theorem parse_ok (s : Str) (n : Int) (w : World) (hs : s.length ≤ 1048576) (h : Lib.parseIntB 64 s = .ok n) :
    Calls Tryd.prog 33 #[.string ⟨s.toArray⟩, .int .i64 10, .int .i64 64] w fun e w' => e = .returned (.tuple #[.int .i64 n, .nilIface]) ∧ Below w.heap.size w w' := by
  refine (Tryd.strconv_ParseInt_10_at64_ok ⟨s.toArray⟩ (by show s.toArray.size ≤ _; simp; omega) n h w).mono ?_
  rintro e w' ⟨rfl, rfl | ⟨t, rfl⟩⟩
  · exact ⟨rfl, Below.refl _ _⟩
  · exact ⟨rfl, Lib.bytesWorld_below _ _ _⟩
theorem parse_bad (s : Str) (w : World) (hs : s.length ≤ 1048576) (h : ∀ n, Lib.parseIntB 64 s ≠ .ok n) (hE : ErrVars w) :
    Calls Tryd.prog 33 #[.string ⟨s.toArray⟩, .int .i64 10, .int .i64 64] w fun e w' => (∃ (k : Int) (t : TypeId) (p : Value), e = .returned (.tuple #[.int .i64 k, .iface t p])) ∧ Below w.heap.size w w' := by
  have hsz : (⟨s.toArray⟩ : ByteArray).size ≤ 281474976710656 := by show s.toArray.size ≤ _; simp; omega
  obtain ⟨ev, e1, e2⟩ := hE.s
  obtain ⟨fv, f1, f2⟩ := hE.r
  cases hp : Lib.parseIntB 64 s with
  | ok n => exact absurd hp (h n)
  | range =>
    refine (Tryd.strconv_ParseInt_10_at64_range ⟨s.toArray⟩ hsz hp fv w f1 f2).mono ?_
    rintro e w' ⟨N, rfl, -, -, hb⟩
    exact ⟨⟨_, _, _, rfl⟩, hb⟩
  | _ =>
    refine (Any.strconv_ParseInt_10_at64_syntax Tryd.laysC174 ⟨s.toArray⟩ hsz hp ev w e1 e2).mono ?_
    rintro e w' ⟨N, rfl, -, -, hb⟩
    exact ⟨⟨_, _, _, rfl⟩, hb⟩
theorem prefix_34 (s : Str) : Lib.hasPrefix s [34] = decide (s.head? = some 34) := by
  cases s with
  | nil => rfl
  | cons b r =>
    rw [Bool.eq_iff_iff, decide_eq_true_eq]
    simp [Lib.hasPrefix]
    exact eq_comm

set_option maxHeartbeats 4000000 in
theorem readRef_any (s : Str) (w : World) (hs : s.length ≤ 1048576) (hT : Tabs w) :
    Calls Tryd.prog 17 #[.string ⟨s.toArray⟩] w fun e w' => e = .returned (vRes (rdR s)) ∧ Below w.heap.size w w' := by
  have hbV : Below w.heap.size w (w.alloc (.cells #[.int .i64 0, .int .i64 0, .string ⟨#[]⟩] 23)) := by go_grown
  have hZ := ZBox.new w
  obtain ⟨V, hV⟩ : ∃ V, w.alloc (.cells #[.int .i64 0, .int .i64 0, .string ⟨#[]⟩] 23) = V := ⟨_, rfl⟩
  have HV := Lib.hid hV
  rw [hV] at hbV hZ
  clear hV
  by_cases ht : s = trueS
  · subst ht
    clear HV hbV hZ
    go_enter Tryd.func17, Tryd.ntmps17
    go_wp2_with fail
    refine bodyPost_ret (v := vRes (2, 1, [], 0)) (by simp [results, Tryd.results17, go_sem]) rfl ⟨rfl, by go_grown⟩
  · by_cases hf : s = falseS
    · subst hf
      clear HV hbV hZ
      go_enter Tryd.func17, Tryd.ntmps17
      go_wp2_with fail
      refine bodyPost_ret (v := vRes (2, 0, [], 0)) (by simp [results, Tryd.results17, go_sem]) rfl ⟨rfl, by go_grown⟩
    · have tb : (s == trueS) = false := by rw [beq_eq_false_iff_ne]; exact ht
      have fb : (s == falseS) = false := by rw [beq_eq_false_iff_ne]; exact hf
      have HREF : Hid (rdR s = rdQ (allQ s) (numR s)) := Lib.hid (by unfold rdR; rw [if_neg ht, if_neg hf])
      obtain ⟨RES, hRES⟩ : ∃ R, rdR s = R := ⟨_, rfl⟩
      rw [hRES]
      rw [hRES] at HREF
      have hqu := Lib.hid (quotedRef_any s V hs (hT.below hbV))
      clear ht hf hRES
      cases hq : allQ s with
      | some t =>
        rw [hq] at HREF
        obtain ⟨t', h1, h2⟩ : ∃ t', quotedR s = some (s.length, t') ∧ t' = t := by
          obtain ⟨⟨n, t'⟩, h1, h2⟩ := Option.bind_eq_some_iff.1 hq
          by_cases hn : n = s.length
          · rw [if_pos hn] at h2
            injection h2 with h2
            exact ⟨t', by rw [h1, hn], h2⟩
          · rw [if_neg hn] at h2
            cases h2
        subst h2
        rw [h1, show quRes (some (s.length, t')) = .returned (.tuple #[.int .i64 (s.length : Nat), .string ⟨t'.toArray⟩]) from rfl] at hqu
        have hpos : 0 < s.length := by
          unfold quotedR at h1
          split at h1
          · rename_i h34
            cases s with
            | nil => simp at h34
            | cons _ _ => simp
          · cases h1
        have hposz : (0 : Int) < (s.length : Int) := by omega
        clear h1 hq
        by_cases h100 : 100 < t'.length
        · have hz100 : (100 : Int) < (t'.length : Int) := by omega
          have hres : RES = (0, 0, [], 2) := by rw [HREF.out]; exact if_pos h100
          subst hres
          clear HREF h100
          go_enter Tryd.func17, Tryd.ntmps17
          go_wp2_with fail
          rw [HV.out]
          refine hqu.out.mono ?_
          rintro e w1 ⟨rfl, hb1⟩
          have hZ1 := hZ.keep hb1
          have hbw := chain hbV hb1
          have K0 := hZ1.c0
          have K1 := hZ1.c1
          have K2 := hZ1.c2
          have kf0 := hZ1.f 0
          have kf1 := hZ1.f 1
          have kf2 := hZ1.f 2
          clear hb1 hZ hZ1
          go_wp2_with fail
          refine bodyPost_ret (v := vRes (0, 0, [], 2)) (by simp [results, Tryd.results17, go_sem, K0, K1, K2]) rfl ⟨rfl, box3 hbw _ _ _⟩
        · have hz100 : ¬ (100 : Int) < (t'.length : Int) := by omega
          have hres : RES = (3, 0, t', 0) := by rw [HREF.out]; exact if_neg h100
          subst hres
          clear HREF h100
          go_enter Tryd.func17, Tryd.ntmps17
          go_wp2_with fail
          rw [HV.out]
          refine hqu.out.mono ?_
          rintro e w1 ⟨rfl, hb1⟩
          have hZ1 := hZ.keep hb1
          have hbw := chain hbV hb1
          have K0 := hZ1.c0
          have K1 := hZ1.c1
          have K2 := hZ1.c2
          have kf0 := hZ1.f 0
          have kf1 := hZ1.f 1
          have kf2 := hZ1.f 2
          clear hb1 hZ hZ1
          go_wp2_with fail
          refine bodyPost_ret (v := vRes (3, 0, t', 0)) (by simp [results, Tryd.results17, go_sem, K0, K1, K2]) rfl ⟨rfl, box3 hbw _ _ _⟩
      | none =>
        rw [hq] at HREF
        -- what Quoted says is not all of the text
        obtain ⟨k, u, hk, hku⟩ : ∃ (k : Int) (u : Str), quRes (quotedR s) = .returned (.tuple #[.int .i64 k, .string ⟨u.toArray⟩]) ∧ k ≠ (s.length : Int) := by
          cases h1 : quotedR s with
          | none => exact ⟨-1, [], rfl, by omega⟩
          | some x =>
            refine ⟨x.1, x.2, rfl, fun e => ?_⟩
            unfold allQ at hq
            rw [h1, Option.bind_some, if_pos (by omega)] at hq
            cases hq
        rw [hk] at hqu
        have hkb : (k == (s.length : Int)) = false := by rw [beq_eq_false_iff_ne]; exact hku
        clear hq hk hku
        cases hnum : numR s with
        | some n =>
          have hres : RES = (1, n, [], 0) := by rw [HREF.out, hnum]; rfl
          subst hres
          have HNUM := Lib.hid hnum
          clear HREF hnum
          go_enter Tryd.func17, Tryd.ntmps17
          go_wp2_with fail
          rw [HV.out]
          refine hqu.out.mono ?_
          rintro e w1 ⟨rfl, hb1⟩
          have hZ1 := hZ.keep hb1
          have hbw := chain hbV hb1
          clear hb1 hZ
          go_wp2_with fail
          refine (number_any s w1 hs).mono ?_
          rw [HNUM.out]
          rintro e w2 ⟨rfl, hb2⟩
          have hZ2 := hZ1.keep hb2
          have hbw2 := chain hbw hb2
          have K0 := hZ2.c0
          have K1 := hZ2.c1
          have K2 := hZ2.c2
          have kf0 := hZ2.f 0
          have kf1 := hZ2.f 1
          have kf2 := hZ2.f 2
          clear hb2 hZ1 hbw hZ2
          go_wp2_with fail
          refine bodyPost_ret (v := vRes (1, n, [], 0)) (by simp [results, Tryd.results17, go_sem, K0, K1, K2]) rfl ⟨rfl, box3 hbw2 _ _ _⟩
        | none =>
          have hres : RES = (0, 0, [], 3) := by rw [HREF.out, hnum]; rfl
          subst hres
          have HNUM := Lib.hid hnum
          clear HREF hnum
          go_enter Tryd.func17, Tryd.ntmps17
          go_wp2_with fail
          rw [HV.out]
          refine hqu.out.mono ?_
          rintro e w1 ⟨rfl, hb1⟩
          have hZ1 := hZ.keep hb1
          have hbw := chain hbV hb1
          clear hb1 hZ
          go_wp2_with fail
          refine (number_any s w1 hs).mono ?_
          rw [HNUM.out]
          rintro e w2 ⟨rfl, hb2⟩
          have hZ2 := hZ1.keep hb2
          have hbw2 := chain hbw hb2
          have K0 := hZ2.c0
          have K1 := hZ2.c1
          have K2 := hZ2.c2
          have kf0 := hZ2.f 0
          have kf1 := hZ2.f 1
          have kf2 := hZ2.f 2
          clear hb2 hZ1 hbw hZ2
          go_wp2_with fail
          refine bodyPost_ret (v := vRes (0, 0, [], 3)) (by simp [results, Tryd.results17, go_sem, K0, K1, K2]) rfl ⟨rfl, box3 hbw2 _ _ _⟩

set_option maxHeartbeats 4000000 in
theorem read_any (s : Str) (w : World) (hs : s.length ≤ 1048576) (hT : Tabs w) (hE : ErrVars w) (hP : PowTab w) :
    Calls Tryd.prog 16 #[.string ⟨s.toArray⟩] w fun e w' => e = .returned (vRes (rdP s)) ∧ Below w.heap.size w w' := by
  have hbV : Below w.heap.size w (w.alloc (.cells #[.int .i64 0, .int .i64 0, .string ⟨#[]⟩] 23)) := by go_grown
  have hZ := ZBox.new w
  obtain ⟨V, hV⟩ : ∃ V, w.alloc (.cells #[.int .i64 0, .int .i64 0, .string ⟨#[]⟩] 23) = V := ⟨_, rfl⟩
  have HV := Lib.hid hV
  rw [hV] at hbV hZ
  clear hV
  by_cases ht : s = trueS
  · subst ht
    clear HV hbV hZ
    go_enter Tryd.func16, Tryd.ntmps16
    go_wp2_with fail
    refine bodyPost_ret (v := vRes (2, 1, [], 0)) (by simp [results, Tryd.results16, go_sem]) rfl ⟨rfl, by go_grown⟩
  · by_cases hf : s = falseS
    · subst hf
      clear HV hbV hZ
      go_enter Tryd.func16, Tryd.ntmps16
      go_wp2_with fail
      refine bodyPost_ret (v := vRes (2, 0, [], 0)) (by simp [results, Tryd.results16, go_sem]) rfl ⟨rfl, by go_grown⟩
    · have tb : (s == trueS) = false := by rw [beq_eq_false_iff_ne]; exact ht
      have fb : (s == falseS) = false := by rw [beq_eq_false_iff_ne]; exact hf
      have hpre := fun W : World => Tryd.strings_HasPrefix ⟨s.toArray⟩ ⟨#[34]⟩ W
      have hpe : Lib.hasPrefix (⟨s.toArray⟩ : ByteArray).data.toList (⟨#[34]⟩ : ByteArray).data.toList = decide (s.head? = some 34) := prefix_34 s
      by_cases h34 : s.head? = some 34
      · have hres : rdP s = qVal (pq (s.length - 1) (s.drop 1) []) := by unfold rdP; rw [if_neg ht, if_neg hf, if_pos h34]
        rw [hres]
        rw [decide_eq_true h34] at hpe
        have hpre := fun W => hpe ▸ hpre W
        have HPRE := Lib.hid hpre
        have hqu := Lib.hid (quoted_any s V hs h34 (hT.below hbV))
        obtain ⟨⟨r0, r1, r2, r3⟩, hR⟩ : ∃ R, qVal (pq (s.length - 1) (s.drop 1) []) = R := ⟨_, rfl⟩
        rw [hR] at hqu ⊢
        clear ht hf hres hpre hpe h34 hR
        go_enter Tryd.func16, Tryd.ntmps16
        go_wp2_with fail
        refine (HPRE.out _).mono ?_
        rintro e w0 ⟨rfl, rfl⟩
        go_wp2_with fail
        rw [HV.out]
        refine hqu.out.mono ?_
        rintro e w1 ⟨rfl, hb1⟩
        have hZ1 := hZ.keep hb1
        have hbw := chain hbV hb1
        have K0 := hZ1.c0
        have K1 := hZ1.c1
        have K2 := hZ1.c2
        have kf0 := hZ1.f 0
        have kf1 := hZ1.f 1
        have kf2 := hZ1.f 2
        clear hb1 hZ hZ1
        go_wp2_with fail
        refine bodyPost_ret (v := vRes (r0, r1, r2, r3)) (by simp [results, Tryd.results16, go_sem, K0, K1, K2]) rfl ⟨rfl, box3 hbw _ _ _⟩
      · have hres : rdP s = nVal (numP s) := by unfold rdP; rw [if_neg ht, if_neg hf, if_neg h34]
        rw [hres]
        rw [decide_eq_false h34] at hpe
        have hpre := fun W => hpe ▸ hpre W
        have HPRE := Lib.hid hpre
        clear ht hf hres hpre hpe h34
        by_cases hok : ∃ n, Lib.parseIntB 64 s = .ok n
        · obtain ⟨n, hok⟩ := hok
          have hbd := Lib.parseIntB_bounds hok
          have hn1 : -9223372036854775808 ≤ n := by have := hbd.1; omega
          have hn2 : n ≤ 9223372036854775807 := by have := hbd.2; omega
          have hpi := Lib.hid (parse_ok s n V hs hok)
          have hnp : numP s = if Lib.itoa n = s then some n else none := by unfold numP; rw [hok]
          clear hbd hok
          by_cases hi : Lib.itoa n = s
          · have hib : (Lib.itoa n == s) = true := by rw [beq_iff_eq]; exact hi
            have hib2 : (Lib.itoa n != s) = false := by rw [bne_eq_false_iff_eq]; exact hi
            rw [hnp, if_pos hi, show nVal (some n) = (1, n, [], 0) from rfl]
            clear hi hnp
            go_enter Tryd.func16, Tryd.ntmps16
            go_wp2_with fail
            refine (HPRE.out _).mono ?_
            rintro e w0 ⟨rfl, rfl⟩
            go_wp2_with fail
            rw [HV.out]
            refine hpi.out.mono ?_
            rintro e w1 ⟨rfl, hb1⟩
            have hZ1 := hZ.keep hb1
            have hbw := chain hbV hb1
            clear hb1 hZ
            go_wp2_with fail
            refine (Tryd.strconv_FormatInt_10 n hn1 hn2 w1 (hP.below hbw)).mono ?_
            rintro e w2 ⟨rfl, k, os, hw2⟩
            have hb2 : Below w1.heap.size w1 w2 := by rw [hw2]; exact Lib.below_grow _ _ (Nat.le_refl _) _ _
            clear hw2
            have hZ2 := hZ1.keep hb2
            have hbw2 := chain hbw hb2
            have K0 := hZ2.c0
            have K1 := hZ2.c1
            have K2 := hZ2.c2
            have kf0 := hZ2.f 0
            have kf1 := hZ2.f 1
            have kf2 := hZ2.f 2
            clear hb2 hZ1 hbw hZ2
            go_wp2_with fail
            refine bodyPost_ret (v := vRes (1, n, [], 0)) (by simp [results, Tryd.results16, go_sem, K0, K1, K2]) rfl ⟨rfl, box3 hbw2 _ _ _⟩
          · have hib : (Lib.itoa n == s) = false := by rw [beq_eq_false_iff_ne]; exact hi
            have hib2 : (Lib.itoa n != s) = true := by rw [bne_iff_ne]; exact hi
            rw [hnp, if_neg hi, show nVal none = (0, 0, [], 3) from rfl]
            clear hi hnp
            go_enter Tryd.func16, Tryd.ntmps16
            go_wp2_with fail
            refine (HPRE.out _).mono ?_
            rintro e w0 ⟨rfl, rfl⟩
            go_wp2_with fail
            rw [HV.out]
            refine hpi.out.mono ?_
            rintro e w1 ⟨rfl, hb1⟩
            have hZ1 := hZ.keep hb1
            have hbw := chain hbV hb1
            clear hb1 hZ
            go_wp2_with fail
            refine (Tryd.strconv_FormatInt_10 n hn1 hn2 w1 (hP.below hbw)).mono ?_
            rintro e w2 ⟨rfl, k, os, hw2⟩
            have hb2 : Below w1.heap.size w1 w2 := by rw [hw2]; exact Lib.below_grow _ _ (Nat.le_refl _) _ _
            clear hw2
            have hZ2 := hZ1.keep hb2
            have hbw2 := chain hbw hb2
            have K0 := hZ2.c0
            have K1 := hZ2.c1
            have K2 := hZ2.c2
            have kf0 := hZ2.f 0
            have kf1 := hZ2.f 1
            have kf2 := hZ2.f 2
            clear hb2 hZ1 hbw hZ2
            go_wp2_with fail
            refine bodyPost_ret (v := vRes (0, 0, [], 3)) (by simp [results, Tryd.results16, go_sem, K0, K1, K2]) rfl ⟨rfl, box3 hbw2 _ _ _⟩
        · have hno : ∀ n, Lib.parseIntB 64 s ≠ .ok n := fun n e => hok ⟨n, e⟩
          have hnp : numP s = none := by
            unfold numP
            split
            · rename_i m hm
              exact absurd hm (hno m)
            · rfl
          have hpi := Lib.hid (parse_bad s V hs hno (hE.below hbV))
          rw [hnp, show nVal none = (0, 0, [], 3) from rfl]
          clear hno hnp hok
          go_enter Tryd.func16, Tryd.ntmps16
          go_wp2_with fail
          refine (HPRE.out _).mono ?_
          rintro e w0 ⟨rfl, rfl⟩
          go_wp2_with fail
          rw [HV.out]
          refine hpi.out.mono ?_
          rintro e w1 ⟨⟨k, tt, pp, rfl⟩, hb1⟩
          have hZ1 := hZ.keep hb1
          have hbw := chain hbV hb1
          have K0 := hZ1.c0
          have K1 := hZ1.c1
          have K2 := hZ1.c2
          have kf0 := hZ1.f 0
          have kf1 := hZ1.f 1
          have kf2 := hZ1.f 2
          clear hb1 hZ hZ1
          go_wp2_with fail
          refine bodyPost_ret (v := vRes (0, 0, [], 3)) (by simp [results, Tryd.results16, go_sem, K0, K1, K2]) rfl ⟨rfl, box3 hbw _ _ _⟩
end Go.Proofs.YtmklodgcbldndaaDoor
namespace Go.Proofs.YtmklodgcbldndaaDoor
open Go.RowKit Go.Proofs

set_option maxRecDepth 100000
set_option maxHeartbeats 1000000 in
theorem text_any (a b : Str) (e f : Int) (w : World) (h : (f ≠ 0 → e = f ∧ a = []) ∧ (f = 0 → e = 0 ∧ a = b)) :
    Calls Tryd.prog 11 #[.string ⟨a.toArray⟩, .int .i64 e, .string ⟨b.toArray⟩, .int .i64 f] w fun r w' => r = .returned (.bool true) ∧ w' = w := by
  by_cases hf : f = 0
  · obtain ⟨rfl, rfl⟩ := h.2 hf
    subst hf
    go_enter Tryd.func11, Tryd.ntmps11
    go_wp2_with fail
    go_ret
    exact ⟨by simp, rfl⟩
  · obtain ⟨rfl, rfl⟩ := h.1 hf
    have hb : (e != 0) = true := by rw [bne_iff_ne]; exact hf
    clear h hf
    go_enter Tryd.func11, Tryd.ntmps11
    go_wp2_with fail
    go_ret
    exact ⟨by simp, rfl⟩
/-- A box that holds a value. -/
structure VBox3 (w : World) (q : Nat) (s n : Int) (t : Str) : Prop where
  c0 : w.cell? ⟨q, 0, none⟩ = some (.int .i64 s)
  c1 : w.cell? ⟨q, 1, none⟩ = some (.int .i64 n)
  c2 : w.cell? ⟨q, 2, none⟩ = some (.string ⟨t.toArray⟩)
theorem VBox3.keep {w w' : World} {q : Nat} {s n : Int} {t : Str} (h : VBox3 w q s n t) (hb : Below w.heap.size w w') : VBox3 w' q s n t :=
  ⟨cell_keep h.c0 hb, cell_keep h.c1 hb, cell_keep h.c2 hb⟩
theorem VBox3.new (w : World) (s n : Int) (t : Str) : VBox3 (w.alloc (.cells #[.int .i64 s, .int .i64 n, .string ⟨t.toArray⟩] 23)) w.heap.size s n t := ⟨by simp [go_sem], by simp [go_sem], by simp [go_sem]⟩
set_option maxHeartbeats 4000000 in
theorem vsays_bad (s n : Int) (t x : Str) (w : World) (ht : t.length ≤ 1048576) (hx : x.length ≤ 1048576) (hn1 : -9223372036854775808 ≤ n) (hn2 : n ≤ 9223372036854775807) (hT : Tabs w) (hP : PowTab w) (hE : ErrVars w) (h0 : vchk s n t ≠ 0) :
    Calls Tryd.prog 4 #[mkV s n t, .string ⟨x.toArray⟩] w fun e w' => e = .returned (.bool true) ∧ Below w.heap.size w w' := by
  obtain ⟨C, hC⟩ : ∃ C, vchk s n t = C := ⟨_, rfl⟩
  have HC := Lib.hid hC
  rw [hC] at h0
  have hb : (C == 0) = false := by rw [beq_eq_false_iff_ne]; exact h0
  have H0 := Lib.hid h0
  clear hC h0
  have hra := rd_agree x
  obtain ⟨⟨r0, r1, r2, r3⟩, hR⟩ : ∃ R, rdR x = R := ⟨_, rfl⟩
  rw [hR] at hra
  have HRA := Lib.hid hra
  have HR := Lib.hid hR
  clear hra hR
  obtain ⟨W, hW⟩ : ∃ W, w.alloc (.cells #[.int .i64 s, .int .i64 n, .string ⟨t.toArray⟩] 23) = W := ⟨_, rfl⟩
  have hx0 : Hid (VBox3 W w.heap.size s n t) := by subst hW; exact VBox3.new w s n t
  have B0 : Below w.heap.size w W := by subst hW; exact (Below.refl _ _).alloc (Nat.le_refl _) _
  have HW := Lib.hid hW
  clear hW
  obtain ⟨b0, b1, b2⟩ := hx0.out
  unfold mkV
  go_enter Tryd.func4, Tryd.ntmps4
  go_wp2_with fail
  try rw [HW.out]
  clear HW
  refine (refValue_any s n W t (by omega) (hT.below B0)).mono ?_
  rw [HC.out]
  rintro e w1 ⟨rfl, hb⟩
  have hx1 : Hid (VBox3 w1 w.heap.size s n t) := hx0.out.keep hb
  have B1 := chain B0 hb
  clear hb hx0 B0 b0 b1 b2
  obtain ⟨b0, b1, b2⟩ := hx1.out
  go_wp2_with fail
  refine (vwrite_bad s n t w1 (fun e => H0.out (HC.out.symm.trans e)) ht (hT.below B1)).mono ?_
  rw [HC.out]
  rintro e w2 ⟨rfl, hb⟩
  have hx2 : Hid (VBox3 w2 w.heap.size s n t) := hx1.out.keep hb
  have B2 := chain B1 hb
  clear hb hx1 B1 b0 b1 b2
  obtain ⟨b0, b1, b2⟩ := hx2.out
  go_wp2_with fail
  refine (read_any x w2 hx (hT.below B2) (hE.below B2) (hP.below B2)).mono ?_
  rw [HRA.out]
  rintro e w3 ⟨rfl, hb⟩
  have hx3 : Hid (VBox3 w3 w.heap.size s n t) := hx2.out.keep hb
  have B3 := chain B2 hb
  clear hb hx2 B2 b0 b1 b2
  obtain ⟨b0, b1, b2⟩ := hx3.out
  go_wp2_with fail
  have hbx : Below w3.heap.size w3 (w3.alloc (.cells #[.int .i64 r0, .int .i64 r1, .string ⟨r2.toArray⟩] 23)) := by go_grown
  have hy : VBox3 (w3.alloc (.cells #[.int .i64 r0, .int .i64 r1, .string ⟨r2.toArray⟩] 23)) w3.heap.size r0 r1 r2 := VBox3.new _ _ _ _
  have hxk := hx3.out.keep hbx
  have Bk := chain B3 hbx
  generalize w3.alloc (.cells #[.int .i64 r0, .int .i64 r1, .string ⟨r2.toArray⟩] 23) = W2 at *
  clear hbx hx3 b0 b1 b2 B3
  refine (readRef_any x W2 hx (hT.below Bk)).mono ?_
  rw [HR.out]
  rintro e w8 ⟨rfl, hb⟩
  have hx8 := hxk.keep hb
  have hy8 := hy.keep hb
  have B8 := chain Bk hb
  clear hb hxk hy Bk
  have hbx : Below w8.heap.size w8 (w8.alloc (.cells #[.int .i64 r0, .int .i64 r1, .string ⟨r2.toArray⟩] 23)) := by go_grown
  have hz : VBox3 (w8.alloc (.cells #[.int .i64 r0, .int .i64 r1, .string ⟨r2.toArray⟩] 23)) w8.heap.size r0 r1 r2 := VBox3.new _ _ _ _
  have hx9 := hx8.keep hbx
  have hy9 := hy8.keep hbx
  have B9 := chain B8 hbx
  obtain ⟨b0, b1, b2⟩ := hx9
  go_wp2_with fail
  generalize w8.alloc (.cells #[.int .i64 r0, .int .i64 r1, .string ⟨r2.toArray⟩] 23) = W3 at *
  clear hbx hx8 hy8 B8
  refine (vcheck_any s n W3 t (by omega) (hT.below B9)).mono ?_
  rw [HC.out]
  rintro e w9 ⟨rfl, hb⟩
  have hy10 := hy9.keep hb
  have hz10 := hz.keep hb
  have B10 := chain B9 hb
  clear hb hy9 hz B9 b0 b1 b2
  go_wp2_with fail
  refine (text_any [] [] C C _ ⟨fun _ => ⟨rfl, rfl⟩, fun h => absurd h H0.out⟩).mono ?_
  rintro e w10 ⟨rfl, rfl⟩
  obtain ⟨y0, y1, y2⟩ := hy10
  obtain ⟨z0, z1, z2⟩ := hz10
  have heq : ∀ W : World, (binOp .eql 23 (.agg #[.int .i64 r0, .int .i64 r1, .string ⟨r2.toArray⟩]) (.agg #[.int .i64 r0, .int .i64 r1, .string ⟨r2.toArray⟩])).run Tryd.prog W = .ok (.bool true) W := fun W => by
    have h := run_eqV W r0 r1 r2 r0 r1 r2
    rw [show eqV r0 r1 r2 r0 r1 r2 = true from decide_eq_true ⟨rfl, rfl, rfl⟩] at h
    exact h
  go_wp2_with fail
  go_ret
  exact ⟨rfl, B10⟩
set_option maxHeartbeats 4000000 in
theorem vsays_ok (s n : Int) (t x : Str) (w : World) (ht : t.length ≤ 1048576) (hx : x.length ≤ 1048576) (hn1 : -9223372036854775808 ≤ n) (hn2 : n ≤ 9223372036854775807) (hT : Tabs w) (hP : PowTab w) (hE : ErrVars w) (h0 : vchk s n t = 0) :
    Calls Tryd.prog 4 #[mkV s n t, .string ⟨x.toArray⟩] w fun e w' => e = .returned (.bool true) ∧ Below w.heap.size w w' := by
  have HC := Lib.hid h0
  clear h0
  have hra := rd_agree x
  obtain ⟨⟨r0, r1, r2, r3⟩, hR⟩ : ∃ R, rdR x = R := ⟨_, rfl⟩
  rw [hR] at hra
  have HRA := Lib.hid hra
  have HR := Lib.hid hR
  clear hra hR
  obtain ⟨W, hW⟩ : ∃ W, w.alloc (.cells #[.int .i64 s, .int .i64 n, .string ⟨t.toArray⟩] 23) = W := ⟨_, rfl⟩
  have hx0 : Hid (VBox3 W w.heap.size s n t) := by subst hW; exact VBox3.new w s n t
  have B0 : Below w.heap.size w W := by subst hW; exact (Below.refl _ _).alloc (Nat.le_refl _) _
  have HW := Lib.hid hW
  clear hW
  obtain ⟨b0, b1, b2⟩ := hx0.out
  unfold mkV
  go_enter Tryd.func4, Tryd.ntmps4
  go_wp2_with fail
  try rw [HW.out]
  clear HW
  refine (refValue_any s n W t (by omega) (hT.below B0)).mono ?_
  rw [HC.out]
  rintro e w1 ⟨rfl, hb⟩
  have hx1 : Hid (VBox3 w1 w.heap.size s n t) := hx0.out.keep hb
  have B1 := chain B0 hb
  clear hb hx0 B0 b0 b1 b2
  obtain ⟨b0, b1, b2⟩ := hx1.out
  go_wp2_with fail
  refine (vwrite_ok s n t w1 HC.out ht hn1 hn2 (hT.below B1) (hP.below B1)).mono ?_
  rintro e w2 ⟨rfl, hb⟩
  have hx2 : Hid (VBox3 w2 w.heap.size s n t) := hx1.out.keep hb
  have B2 := chain B1 hb
  clear hb hx1 B1 b0 b1 b2
  obtain ⟨b0, b1, b2⟩ := hx2.out
  go_wp2_with fail
  refine (vtextRef_any s n t w2 HC.out ht hn1 hn2).mono ?_
  rintro e w3 ⟨rfl, hb⟩
  have hx3 : Hid (VBox3 w3 w.heap.size s n t) := hx2.out.keep hb
  have B3 := chain B2 hb
  clear hb hx2 B2 b0 b1 b2
  obtain ⟨b0, b1, b2⟩ := hx3.out
  go_wp2_with fail
  refine (read_any x w3 hx (hT.below B3) (hE.below B3) (hP.below B3)).mono ?_
  rw [HRA.out]
  rintro e w4 ⟨rfl, hb⟩
  have hx4 : Hid (VBox3 w4 w.heap.size s n t) := hx3.out.keep hb
  have B4 := chain B3 hb
  clear hb hx3 B3 b0 b1 b2
  obtain ⟨b0, b1, b2⟩ := hx4.out
  go_wp2_with fail
  have hbx : Below w4.heap.size w4 (w4.alloc (.cells #[.int .i64 r0, .int .i64 r1, .string ⟨r2.toArray⟩] 23)) := by go_grown
  have hy : VBox3 (w4.alloc (.cells #[.int .i64 r0, .int .i64 r1, .string ⟨r2.toArray⟩] 23)) w4.heap.size r0 r1 r2 := VBox3.new _ _ _ _
  have hxk := hx4.out.keep hbx
  have Bk := chain B4 hbx
  generalize w4.alloc (.cells #[.int .i64 r0, .int .i64 r1, .string ⟨r2.toArray⟩] 23) = W2 at *
  clear hbx hx4 b0 b1 b2 B4
  refine (readRef_any x W2 hx (hT.below Bk)).mono ?_
  rw [HR.out]
  rintro e w8 ⟨rfl, hb⟩
  have hx8 := hxk.keep hb
  have hy8 := hy.keep hb
  have B8 := chain Bk hb
  clear hb hxk hy Bk
  have hbx : Below w8.heap.size w8 (w8.alloc (.cells #[.int .i64 r0, .int .i64 r1, .string ⟨r2.toArray⟩] 23)) := by go_grown
  have hz : VBox3 (w8.alloc (.cells #[.int .i64 r0, .int .i64 r1, .string ⟨r2.toArray⟩] 23)) w8.heap.size r0 r1 r2 := VBox3.new _ _ _ _
  have hx9 := hx8.keep hbx
  have hy9 := hy8.keep hbx
  have B9 := chain B8 hbx
  obtain ⟨b0, b1, b2⟩ := hx9
  go_wp2_with fail
  generalize w8.alloc (.cells #[.int .i64 r0, .int .i64 r1, .string ⟨r2.toArray⟩] 23) = W3 at *
  clear hbx hx8 hy8 B8
  refine (vcheck_any s n W3 t (by omega) (hT.below B9)).mono ?_
  rw [HC.out]
  rintro e w9 ⟨rfl, hb⟩
  have hy10 := hy9.keep hb
  have hz10 := hz.keep hb
  have B10 := chain B9 hb
  clear hb hy9 hz B9 b0 b1 b2
  go_wp2_with fail
  refine (text_any (vtxt s n t) (vtxt s n t) 0 0 _ ⟨fun h => absurd rfl h, fun _ => ⟨rfl, rfl⟩⟩).mono ?_
  rintro e w10 ⟨rfl, rfl⟩
  obtain ⟨y0, y1, y2⟩ := hy10
  obtain ⟨z0, z1, z2⟩ := hz10
  have heq : ∀ W : World, (binOp .eql 23 (.agg #[.int .i64 r0, .int .i64 r1, .string ⟨r2.toArray⟩]) (.agg #[.int .i64 r0, .int .i64 r1, .string ⟨r2.toArray⟩])).run Tryd.prog W = .ok (.bool true) W := fun W => by
    have h := run_eqV W r0 r1 r2 r0 r1 r2
    rw [show eqV r0 r1 r2 r0 r1 r2 = true from decide_eq_true ⟨rfl, rfl, rfl⟩] at h
    exact h
  go_wp2_with fail
  go_ret
  exact ⟨rfl, B10⟩
theorem vsays_any (s n : Int) (t x : Str) (w : World) (ht : t.length ≤ 1048576) (hx : x.length ≤ 1048576) (hn1 : -9223372036854775808 ≤ n) (hn2 : n ≤ 9223372036854775807) (hT : Tabs w) (hP : PowTab w) (hE : ErrVars w) :
    Calls Tryd.prog 4 #[mkV s n t, .string ⟨x.toArray⟩] w fun e w' => e = .returned (.bool true) ∧ Below w.heap.size w w' := by
  by_cases h0 : vchk s n t = 0
  · exact vsays_ok s n t x w ht hx hn1 hn2 hT hP hE h0
  · exact vsays_bad s n t x w ht hx hn1 hn2 hT hP hE h0
end Go.Proofs.YtmklodgcbldndaaDoor
