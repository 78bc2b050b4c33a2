/-
  The reference's Turned.
-/
import Derived.Test.YtcacembpegoghaaDoorVal7
namespace Go.Proofs.YtcacembpegoghaaDoor
open Go.RowKit Go.Proofs Go.Sort

theorem encode_list (r : Int) : Utf8.encode r = ⟨(enc r).toArray⟩ := str_data _
theorem app_list (a b : List UInt8) : (⟨a.toArray⟩ : ByteArray) ++ ⟨b.toArray⟩ = ⟨(a ++ b).toArray⟩ := by
  rw [str_data ((⟨a.toArray⟩ : ByteArray) ++ ⟨b.toArray⟩)]
  simp [ByteArray.data_append]
attribute [go_sem] encode_list app_list

theorem enc_le (r : Int) : (enc r).length ≤ 4 := by
  have := encode_size_le r
  rw [Lib.size_eq] at this
  exact this
theorem flat_le : ∀ (rs : List Int), (rs.flatMap enc).length ≤ 4 * rs.length := by
  intro rs
  induction rs with
  | nil => simp
  | cons r t ih => have := enc_le r; rw [List.flatMap_cons, List.length_append, List.length_cons]; omega

set_option maxHeartbeats 1000000 in
theorem refTurned_any (t : List UInt8) (rs : List Int) (w : World) (hT : Tabs w) (hl : t.length ≤ 100) (hr : letters t = some rs) :
    Calls Tryd.prog 16 #[.string ⟨t.toArray⟩] w fun e w' => e = .returned (.string ⟨(rs.reverse.flatMap enc).toArray⟩) ∧ Below w.heap.size w w' := by
  have HR := Lib.hid hr; clear hr
  go_enter Tryd.func16, Tryd.ntmps16
  go_wp2_with fail
  refine (letters_any t _ (by omega) hT).mono ?_; rw [HR.out]; rintro e w1 ⟨hb1, v, rfl, hown⟩
  obtain ⟨A, cap, hv⟩ : ∃ A cap, v = .slice A rs.length cap := by
    rcases hown.2 with ⟨rfl, h0⟩ | ⟨g, cap, cur, rfl, _⟩
    · rw [h0]; exact ⟨_, _, rfl⟩
    · exact ⟨_, _, rfl⟩
  subst hv
  have hrl : rs.length ≤ 100 := by
    have h1 := runeCount_letters t rs HR.out
    have h2 := Lib.runeCount_le ⟨t.toArray⟩
    rw [Lib.size_eq] at h2
    have h3 : (⟨t.toArray⟩ : ByteArray).data.toList.length = t.length := by simp
    omega
  have HO := Lib.hid hown; clear hown
  go_wp2_with fail
  go_loop [5, 7, 15] (fun s _ i => ∃ (k : Nat) (u : List UInt8), k ≤ rs.length ∧ i = .int .i64 k ∧ s = .string ⟨u.toArray⟩ ∧ u.length ≤ 400 ∧ Hid (u = (rs.take k).reverse.flatMap enc)) (fun _ _ i => rs.length - (intOf i).toNat)
  case atStart => exact ⟨0, [], by omega, rfl, rfl, by simp, by simp [Hid]⟩
  case round =>
    obtain ⟨k, u, hk, rfl, rfl, hul, hu⟩ := hrel
    by_cases hlt : k < rs.length
    · obtain ⟨g, cp, hv, hg, hgl⟩ := HO.out.form (by omega)
      obtain ⟨rfl, rfl⟩ : A = some ⟨g, 0, none⟩ ∧ cap = cp := by injection hv; exact ⟨‹_›, ‹_›⟩
      have hc : w1.cell? ⟨g, k, none⟩ = some (.int .i32 rs[k]) := by
        have := HO.out.cells (g := g) rfl k (.int .i32 rs[k]) (by simp [hlt])
        rw [Addr.add_lit, Nat.zero_add] at this
        exact this
      obtain ⟨r, hr⟩ : ∃ r, rs[k] = r := ⟨_, rfl⟩
      rw [hr] at hc
      have hnew : Hid (enc r ++ u = (rs.take (k + 1)).reverse.flatMap enc) := by
        show _ = _
        rw [hu.out, List.take_succ_eq_append_getElem hlt, List.reverse_append, List.flatMap_append, hr]
        simp
      have hlen : (enc r ++ u).length ≤ 400 := by
        rw [hnew.out]
        have := flat_le (rs.take (k + 1)).reverse
        rw [List.length_reverse, List.length_take] at this
        omega
      rw [List.length_append] at hlen
      clear hv hr
      go_wp2_with fail
      go_round
      case rel => exact ⟨k + 1, enc r ++ u, by omega, by go_num, rfl, by rw [List.length_append]; exact hlen, hnew⟩
      case measure => simp [intOf]; omega
    · go_wp2_with fail
      go_ret
      refine ⟨?_, hb1⟩
      have := hu.out
      rw [List.take_of_length_le (by omega)] at this
      subst this
      rfl
end Go.Proofs.YtcacembpegoghaaDoor
