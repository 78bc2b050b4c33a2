/-
  Turned of a text: the program's and the reference's.
-/
import Derived.Test.YtcacembpegoghaaDoorVal6
namespace Go.Proofs.YtcacembpegoghaaDoor
open Go.RowKit Go.Proofs Go.Sort

theorem runesFrom_letters (t : List UInt8) (rs : List Int) (h : letters t = some rs) : Conv.runesFrom ⟨t.toArray⟩ (ByteArray.size ⟨t.toArray⟩) 0 #[] = (runeCells rs).toArray := by
  rw [runes_letters ⟨t.toArray⟩ _ 0 #[] rs (by omega) (by simpa using h)]
  simp

/-- []rune(s): a row of the letters, and room behind it. -/
theorem run_runes (t : List UInt8) (rs : List Int) (w : World) (hl : t.length ≤ 100) (h : letters t = some rs) :
    ∃ cap z, rs.length ≤ cap ∧ (convert 9 110 (.string ⟨t.toArray⟩)).run Tryd.prog w = .ok (.slice (some ⟨w.heap.size, 0, none⟩) rs.length cap) (w.drew.alloc (.cells ((runeCells rs) ++ z).toArray 21)) := by
  have hk := runesFrom_letters t rs h
  have hlen : rs.length ≤ 100 := by
    have h1 := runeCount_letters t rs h
    have h2 := Lib.runeCount_le ⟨t.toArray⟩
    rw [Lib.size_eq] at h2
    have h3 : (⟨t.toArray⟩ : ByteArray).data.toList.length = t.length := by simp
    omega
  have hr := run_runes_of_string (P := Tryd.prog) w 9 110 21 ⟨t.toArray⟩ Tryd.underlying9 Tryd.underlying110 Tryd.underlying21 (by rw [hk]; simp; omega)
  rw [hk] at hr
  have hsz : (runeCells rs).toArray.size = rs.length := by simp
  rw [hsz] at hr
  refine ⟨_, List.replicate (grownCap w rs.length 0 21 - rs.length) (.int .i32 0), grownCap_ge w rs.length 0 21, hr.trans ?_⟩
  have e : ∀ k : Nat, (runeCells rs).toArray ++ Array.replicate k (Value.int .i32 0) = (runeCells rs ++ List.replicate k (Value.int .i32 0)).toArray := fun k => by apply Array.ext'; simp
  rw [e]

set_option maxHeartbeats 1000000 in
theorem turned_ok (t : List UInt8) (rs : List Int) (w : World) (hT : Tabs w) (h1 : chkT 3 0 t = 0) (hr : letters t = some rs) :
    Calls Tryd.prog 21 #[mkV 3 0 t] w fun e w' => e = .returned (.tuple #[mkV 3 0 (rs.reverse.flatMap enc), .int .i64 0]) ∧ Below w.heap.size w w' := by
  obtain ⟨-, -, hl, -⟩ := chkT_zero h1
  have hf := firstT_one 3 0 t
  rw [h1] at hf
  have HF := Lib.hid hf; have HR := Lib.hid hr; clear h1 hf hr
  go_enter Tryd.func21, Tryd.ntmps21
  go_wp2_with fail
  refine (text_any [(3, 0, t)] _ _ (by simp) (by simp; omega) (hT.below (by go_grown)) (by simp) ?_).mono ?_
  · intro i x hx
    match i, hx with
    | 0, hx => simp at hx; subst hx; simp [go_sem]
  rw [HF.out]; rintro e w1 ⟨rfl, hb1⟩; obtain ⟨hc1, hf1, hz1⟩ := bcell hb1
  have hb := chain (w := w) (by go_grown) hb1
  have q1 : w.heap.size + 3 ≤ w1.heap.size := by simp at hz1; omega
  simp only [World.size_alloc] at hc1 hf1
  have j2 : w1.cell? ⟨w.heap.size, 2, none⟩ = some (.string ⟨t.toArray⟩) := by rw [hc1 _ _ (by omega)]; simp [go_sem]
  have k0 : w1.cell? ⟨w.heap.size + 1, 0, none⟩ = some (.int .i64 0) := by rw [hc1 _ _ (by omega)]; simp [go_sem]
  have k1 : w1.cell? ⟨w.heap.size + 1, 1, none⟩ = some (.int .i64 0) := by rw [hc1 _ _ (by omega)]; simp [go_sem]
  have k2 : w1.cell? ⟨w.heap.size + 1, 2, none⟩ = some (.string ⟨#[]⟩) := by rw [hc1 _ _ (by omega)]; simp [go_sem]
  have k3 : ∀ j, w1.frozen? ⟨w.heap.size + 1, j, none⟩ = false := fun j => by rw [hf1 _ _ (by omega)]; simp [go_sem]
  clear hb1 hc1 hf1
  obtain ⟨cap, z, hcap, hconv⟩ := run_runes t rs w1 hl HR.out
  go_wp2_with fail
  have hH : Holds encR (w1.alloc (.cells ((runeCells rs) ++ z).toArray 21)).drew w1.heap.size 0 rs.toArray := by
    intro j hj
    have hj' : j < rs.length := by simpa using hj
    refine ⟨?_, ?_⟩
    · show (w1.alloc (.cells ((runeCells rs) ++ z).toArray 21)).cell? _ = _
      rw [World.cell?_alloc_at _ _ _ _ rfl]
      simp only [Nat.zero_add, List.getElem?_toArray]
      rw [List.getElem?_append_left (by simpa using hj')]
      simp [hj']
    · exact World.frozen?_alloc_at _ _ _ _ rfl
  have hrl : rs.length ≤ 9223372036854775807 := by
    have h1 := runeCount_letters t rs HR.out
    have h2 := Lib.runeCount_le ⟨t.toArray⟩
    rw [Lib.size_eq] at h2
    have h3 : (⟨t.toArray⟩ : ByteArray).data.toList.length = t.length := by simp
    omega
  have hrev := reverse_arr w1.heap.size 0 cap rs.toArray _ hH (by simpa using hrl)
  rw [show rs.toArray.size = rs.length by simp] at hrev
  refine hrev.mono ?_
  rintro e w2 ⟨rfl, q, hw2⟩
  have hb2 : Below w.heap.size w w2 := by
    rw [hw2]
    refine Below.trans (b := Sort.ahead (w1.alloc (.cells ((runeCells rs) ++ z).toArray 21)).drew q) (Below.trans (b := (w1.alloc (.cells ((runeCells rs) ++ z).toArray 21)).drew) (by go_grown) (below_ahead q)) (below_putRow hb.size)
  have hold : ∀ (b o : Nat), b < w1.heap.size → w2.cell? ⟨b, o, none⟩ = w1.cell? ⟨b, o, none⟩ := by
    intro b o hbo
    rw [hw2, cell?_putRow_other _ _ _ _ _ _ (.inl (by show b ≠ w1.heap.size; omega))]
    exact World.cell?_alloc_lt w1 _ ⟨b, o, none⟩ hbo
  have hfr : ∀ (b o : Nat), b < w1.heap.size → w2.frozen? ⟨b, o, none⟩ = w1.frozen? ⟨b, o, none⟩ := by
    intro b o hbo
    rw [hw2]
    simp only [frozen?_putRow, frozen?_ahead]
    exact ((Below.refl w1.heap.size w1).alloc (Nat.le_refl _) _).frozen (p := ⟨b, o, none⟩) hbo
  have hcells : ∀ j, j < rs.reverse.length → w2.cell? ((⟨w1.heap.size, 0, none⟩ : Addr).add j) = some (.int .i32 (rs.reverse.getD j 0)) := by
    intro j hj
    have := cell?_putRow encR (Sort.ahead (w1.alloc (.cells ((runeCells rs) ++ z).toArray 21)).drew q) w1.heap.size 0 rs.toArray rs.toArray.reverse hH (by simp) j (by simpa using hj)
    rw [hw2, Addr.add_lit, this]
    simp at hj
    simp [List.getD, hj]
  have hc2 := run_convert_runes (P := Tryd.prog) w2 110 9 21 ⟨w1.heap.size, 0, none⟩ rs.length cap rs.reverse (by simp) Tryd.underlying110 Tryd.underlying21 Tryd.underlying9 hcells
  rw [show rs.reverse.take rs.length = rs.reverse from List.take_of_length_le (by simp), runesBytes_list] at hc2
  have p0 : w2.cell? ⟨w.heap.size + 1, 0, none⟩ = some (.int .i64 0) := by rw [hold _ _ (by omega)]; exact k0
  have p1 : w2.cell? ⟨w.heap.size + 1, 1, none⟩ = some (.int .i64 0) := by rw [hold _ _ (by omega)]; exact k1
  have p2 : w2.cell? ⟨w.heap.size + 1, 2, none⟩ = some (.string ⟨#[]⟩) := by rw [hold _ _ (by omega)]; exact k2
  have p3 : ∀ j, w2.frozen? ⟨w.heap.size + 1, j, none⟩ = false := fun j => by rw [hfr _ _ (by omega)]; exact k3 j
  obtain ⟨u, hu⟩ : ∃ u, rs.reverse.flatMap enc = u := ⟨_, rfl⟩
  rw [hu] at hc2
  have HU := Lib.hid hu
  clear hw2 hold hfr hcells hH hrev k0 k1 k2 k3 j2 hconv hu
  go_wp2_with fail
  exact bodyPost_ret (v := .tuple #[mkV 3 0 u, .int .i64 0]) (by simp [results, Tryd.results21, go_sem, p0, p1, p2]) rfl ⟨by rw [HU.out], by go_grown⟩
end Go.Proofs.YtcacembpegoghaaDoor
