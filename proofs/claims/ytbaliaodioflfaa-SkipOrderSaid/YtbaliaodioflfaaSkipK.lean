/-
  Walks through layer 16: Drop. For every cache that rises.
-/
import Derived.Test.YtbaliaodioflfaaSkipJ
namespace Go.Proofs.Ytbaliaodioflfaa
open Go.RowKit Go.Lib

set_option maxRecDepth 100000 in
set_option maxHeartbeats 8000000 in
theorem drop16_calls {es : List En} {v : Value} {w : World} (n : Int) (hr : Rises es) (h : CaAt w v es) (hm : es.length ≤ 900) :
    Calls Try.prog 50 #[.agg #[v], .int .i64 n] w fun e' w' => ∃ v', e' = .returned (.agg #[v']) ∧ CaAt w' v' (kDrop es n) ∧ NewSl w w' v' ∧ Below w.heap.size w w' := by
  obtain ⟨ad, cap, rfl, hat, hnil⟩ := h.ex
  have HE := hid hat
  have HR := hid hr
  have HC := hid h
  clear hat hr h
  go_enter Try.func50, Try.ntmps50
  go_wp2_with fail
  have H0 := hid (((Hd.boxk (o := .cells #[.slice ad es.length cap] 85 (0, 0)) w.heap.size rfl (Hd.refl w)).boxk (o := .cells #[.slice none 0 0] 85 (0, 0)) (w.heap.size + 1) (by simp)))
  refine (clone_calls (HC.out.later H0.out.below) (by omega)).mono ?_
  rintro e w1 ⟨l, rfl, hd⟩
  have H := hid (H0.out.join hd)
  clear hd H0
  have hc := H.out.drop.drop.blk
  have c0 := (cell_of_heap hc 0).trans (show _ = some (.slice ad es.length cap) from rfl)
  clear hc
  go_wp2_with fail
  refine (place_calls n HR.out (HE.out.later H.out.below) rfl (by omega)).mono ?_
  rintro e w2 ⟨rfl, hb⟩
  replace H := hid (H.out.still hb)
  clear hb c0
  have hq := lowOf_le n es
  by_cases his : isAt es n = true
  · obtain ⟨f, hf, hep⟩ := isAt_some his
    have KD : Hid (kDrop es n = es.eraseIdx (lowOf n es)) := hid (by unfold kDrop; rw [if_pos his])
    rw [his]
    obtain ⟨q, hqe⟩ : ∃ q, lowOf n es = q := ⟨_, rfl⟩
    rw [hqe] at hq hf KD ⊢
    have zl : q < es.length := (List.getElem?_eq_some_iff.1 hf).1
    obtain ⟨k, hk⟩ : ∃ k, k + 1 = es.length := ⟨es.length - 1, by omega⟩
    obtain ⟨hl, ⟨rfl, h0⟩ | ⟨g, c3, cur, rfl, _, hg, h3, h4, h5, h6⟩⟩ := H.out.owns
    · omega
    rw [← hk] at H h3 hm ⊢
    have hqk : q ≤ k := by omega
    have HK := hid hk
    have hw1 : IntKind.i64.wrap ((q : Int) + 1) = (q : Int) + 1 := by rw [IntKind.wrap_i64]; omega
    clear hl hg h5 h6 his hep hqe hf hk hnil hq zl
    go_wp2_with fail
    refine (delete_calls HK.out hqk (by omega) H.out).mono ?_
    rintro e w3 ⟨rfl, hd⟩
    clear H
    have b4 := hd.drop.blk
    have o0 := (cell_of_heap b4 0).trans (show _ = some (.slice none 0 0) from rfl)
    have o1 := frozen_of_heap b4
    have o2 := (Array.getElem?_eq_some_iff.1 b4).1
    have H := hid hd
    clear hd b4
    go_wp2_with fail
    refine bodyPost_ret (v := .agg #[.slice (some ⟨g, 0, none⟩) k c3]) (by simp [results, Try.results50, go_sem, o0]) rfl ?_
    rw [KD.out]
    have HH := (H.out.swap.set 0 (.slice (some ⟨g, 0, none⟩) k c3)).swap
    exact ⟨_, rfl, Hd.row_ca (by rw [List.length_eraseIdx_of_lt (by have := HK.out; omega)]; have := HK.out; omega) HH, HH.row_newSl, HH.below⟩
  · have hif : isAt es n = false := by simpa using his
    have KD : Hid (kDrop es n = es) := hid (by unfold kDrop; rw [if_neg his])
    rw [hif]
    have b4 := H.out.drop.blk
    have o0 := (cell_of_heap b4 0).trans (show _ = some (.slice none 0 0) from rfl)
    have o1 := frozen_of_heap b4
    have o2 := (Array.getElem?_eq_some_iff.1 b4).1
    obtain ⟨la, lc, rfl⟩ := H.out.row_form
    clear his b4 hnil
    go_wp2_with fail
    refine bodyPost_ret (v := .agg #[.slice la es.length lc]) (by simp [results, Try.results50, go_sem, o0]) rfl ?_
    rw [KD.out]
    have HH := (H.out.swap.set 0 (.slice la es.length lc)).swap
    exact ⟨_, rfl, Hd.row_ca rfl HH, HH.row_newSl, HH.below⟩
end Go.Proofs.Ytbaliaodioflfaa
