/-
  Walks through the document's package of layer 16: Put. For every list of entries that rises.
-/
import Derived.Test.YtbaliaodioflfaaSkipM
import Derived.Test.YtbaliaodioflfaaSkipI
namespace Go.Proofs.Ytbaliaodioflfaa
open Go.RowKit

theorem below_without (es : List En) (n : Int) : below (without es n) n = below es n := by
  unfold below without
  rw [List.filter_filter]
  congr 1
  funext x
  by_cases h : x.ep < n <;> simp [h]
  omega
theorem above_without (es : List En) (n : Int) : above (without es n) n = above es n := by
  unfold above without
  rw [List.filter_filter]
  congr 1
  funext x
  by_cases h : n < x.ep <;> simp [h]
  omega
/-- Where the ones below end. -/
theorem cut_without {es : List En} {n : Int} {j : Nat} (hr : Rises es) (hj : j ≤ (without es n).length) (h1 : ∀ k e, k < j → (without es n)[k]? = some e → e.ep < n) (h2 : ∀ e, (without es n)[j]? = some e → ¬ e.ep < n) :
    (without es n).take j = below es n ∧ (without es n).drop j = above es n := by
  obtain ⟨p1, p2, _⟩ := parts_of n (without_rises hr n)
  have hlow := lowOf_eq hj h1 h2
  rw [hlow, below_without] at p1
  have hs : without es n = below es n ++ above es n := (parts_of n hr).2.2
  rw [hs, p1]
  exact ⟨List.take_left, List.drop_left⟩
theorem EnAt.drop {w : World} {g o : Nat} {es : List En} (h : EnAt w (some ⟨g, o, none⟩) es) (j : Nat) : EnAt w (some ⟨g, o + j * 4, none⟩) (es.drop j) := fun i e hi => by
  obtain ⟨g2, o2, ha, hc⟩ := h (j + i) e (by rwa [List.getElem?_drop] at hi)
  cases ha
  refine ⟨g, o + j * 4, rfl, fun r v hr => ?_⟩
  rw [show o + j * 4 + i * 4 + r = o + (j + i) * 4 + r by omega]
  exact hc r v hr

/-- A list of the document's, as a value. -/
structure LaAt (w : World) (v : Value) (es : List En) : Prop where
  ex : ∃ ad cap, v = .slice ad es.length cap ∧ EnAt w ad es ∧ (ad = none → cap = 0 ∧ es = [])
theorem LaAt.later {w w' : World} {v : Value} {es : List En} (h : LaAt w v es) (hb : Below w.heap.size w w') : LaAt w' v es := by
  obtain ⟨ad, cap, rfl, h1, h2⟩ := h.ex
  exact ⟨ad, cap, rfl, h1.later hb, h2⟩

set_option maxRecDepth 100000 in
set_option maxHeartbeats 16000000 in
theorem rput16_calls {es : List En} {v : Value} {w : World} (a k x y : Int) (hr : Rises es) (h : LaAt w v es) (hm : es.length ≤ 800) :
    Calls Try.prog 53 #[v, .agg #[.int .i64 a, .int .i64 k, .int .u64 x, .int .u64 y]] w fun e' w' => ∃ v', e' = .returned (.tuple #[v', enV (rPut es ⟨a, k, x, y⟩).2.1, .bool (rPut es ⟨a, k, x, y⟩).2.2]) ∧ LaAt w' v' (rPut es ⟨a, k, x, y⟩).1 ∧ NewSl w w' v' ∧ Below w.heap.size w w' := by
  obtain ⟨ad, cap, rfl, hat, _⟩ := h.ex
  have HE := hid hat
  have HR := hid hr
  clear hat hr h
  go_enter Try.func53, Try.ntmps53
  go_wp2_with fail
  have H0 := hid ((Hd.boxk (o := .cells #[.int .i64 a, .int .i64 k, .int .u64 x, .int .u64 y] 98 (0, 0)) w.heap.size rfl (Hd.refl w)).boxk (o := .cells #[.int .i64 0, .int .i64 0, .int .u64 0, .int .u64 0] 98 (0, 0)) (w.heap.size + 1) (by simp))
  refine (rdrop_calls a (HE.out.later H0.out.below) rfl (by omega)).mono ?_
  obtain ⟨RS, hRS⟩ : ∃ RS, without es a = RS := ⟨_, rfl⟩
  obtain ⟨n, hn⟩ : ∃ n, RS.length = n := ⟨_, rfl⟩
  have hn8 : n ≤ 800 := by
    have := List.length_filter_le (fun x : En => decide (x.ep ≠ a)) es
    have e2 : (without es a).length ≤ es.length := this
    rw [hRS] at e2; omega
  rw [hRS, hn]
  rintro e w1 ⟨gr, cr, rfl, hd⟩
  have H1 := hid ((H0.out.join hd).row_newS (E := 98) (size := 4))
  have HRS := hid hRS
  have HN := hid hn
  clear hd H0 hRS hn
  go_wp2_with fail
  go_loopw [8, 9] (fun u i wr => ∃ (j g c : Nat), j ≤ n ∧ i = .int .i64 j ∧ u = .slice (some ⟨g, 0, none⟩) j c ∧ Hid (∀ k e, k < j → RS[k]? = some e → e.ep < a) ∧ Hid (Hd w wr [RowR 98 4 (.slice (some ⟨g, 0, none⟩) j c) j (ensC (RS.take j)), RowR 98 4 (.slice (some ⟨gr, 0, none⟩) n cr) n (ensC RS), Blk (w.heap.size + 1) (.cells #[.int .i64 0, .int .i64 0, .int .u64 0, .int .u64 0] 98 (0, 0)), Blk w.heap.size (.cells #[.int .i64 a, .int .i64 k, .int .u64 x, .int .u64 y] 98 (0, 0))])) (fun _ i _ => n - (intOf i).toNat)
  case atStart => exact ⟨0, _, _, Nat.zero_le _, rfl, rfl, hid fun k e hk => by omega, H1⟩
  case round =>
    clear H1
    obtain ⟨j, g, c, hj, rfl, rfl, hF, HB⟩ := hrel
    obtain ⟨wo, hwo⟩ : ∃ wo : World, wo = wr := ⟨_, rfl⟩
    rw [← hwo] at HB ⊢
    clear hwo wr
    have mixed : Try.prog.follows .mixedOrders = true := by kernel_rfl
    have hk := HB.out.drop.drop.drop.blk
    have b0 := (cell_of_heap hk 0).trans (show _ = some (.int .i64 a) from rfl)
    have b1 := (cell_of_heap hk 1).trans (show _ = some (.int .i64 k) from rfl)
    have b2 := (cell_of_heap hk 2).trans (show _ = some (.int .u64 x) from rfl)
    have b3 := (cell_of_heap hk 3).trans (show _ = some (.int .u64 y) from rfl)
    clear hk
    have zj0 : (0 : Int) ≤ (j : Int) := by omega
    -- behind the loop
    have out : (∀ e, RS[j]? = some e → ¬ e.ep < a) → Hid (RS.take j = below es a ∧ RS.drop j = above es a ∧ ins es ⟨a, k, x, y⟩ = RS.take j ++ [⟨a, k, x, y⟩] ++ RS.drop j) := fun h2 => hid (by
      have := cut_without (es := es) (n := a) (j := j) HR.out (by rw [HRS.out, HN.out]; exact hj) (by rw [HRS.out]; exact hF.out) (by rw [HRS.out]; exact h2)
      rw [HRS.out] at this
      refine ⟨this.1, this.2, ?_⟩
      rw [this.1, this.2]
      simp [ins])
    have goes : j < n → ∃ f, RS[j]? = some f := fun h => ⟨RS[j]'(by rw [HN.out]; exact h), List.getElem?_eq_getElem _⟩
    by_cases hgo : ∃ f, RS[j]? = some f ∧ f.ep < a
    · obtain ⟨⟨fa, fk, fx, fy⟩, hf, hlt⟩ := hgo
      have hjn : j < n := by have := (List.getElem?_eq_some_iff.1 hf).1; rw [HN.out] at this; exact this
      have hd1 : decide ((j : Int) < (n : Int)) = true := by simp; omega
      have hd1' : decide (j < n) = true := by simp; omega
      obtain ⟨g2, o, hga, hc⟩ := (Hd.row_en HN.out.symm HB.out.drop) j _ hf
      simp only [Option.some.injEq, Addr.mk.injEq, and_true] at hga
      obtain ⟨rfl, rfl⟩ := hga
      have d0 := hc 0 _ rfl
      have d1 := hc 1 _ rfl
      have d2 := hc 2 _ rfl
      have d3 := hc 3 _ rfl
      rw [Nat.zero_add] at d1 d2 d3
      rw [Nat.add_zero, Nat.zero_add] at d0
      have zj1 : (j : Int) < (n : Int) := by omega
      have hd2 : decide (fa < a) = true := by simpa using hlt
      have HF2 : Hid (∀ k e, k < j + 1 → RS[k]? = some e → e.ep < a) := hid fun k e hk he => by
        by_cases hkj : k = j
        · subst hkj; rw [hf] at he; cases he; exact hlt
        · exact hF.out k e (by omega) he
      have HT : Hid (RS.take (j + 1) = RS.take j ++ [⟨fa, fk, fx, fy⟩]) := hid (by rw [List.take_add_one, hf]; rfl)
      clear hc hf hlt out goes
      go_wp2_with fail
      go_region
      go_wp2_with (at_builtin; refine append_en ⟨fa, fk, fx, fy⟩ Try.underlying86 info_RE rfl (.tmp 32) (.tmp 37) rfl rfl HB.out.dr (by rfl) (by rfl) (by omega) ?_; intro g3 c3 w3 h3; have H3 := hid h3; clear h3)
      go_roundw
      case rel => exact ⟨j + 1, g3, c3, by omega, by go_num, rfl, HF2, hid (by rw [HT.out]; exact H3.out)⟩
      case measure => simp [intOf]; omega
    · have HO := out fun e he hlt => hgo ⟨e, he, hlt⟩
      by_cases hlt : j < n
      · skip
        obtain ⟨⟨fa, fk, fx, fy⟩, hf⟩ := goes hlt
        have hd1 : decide ((j : Int) < (n : Int)) = true := by simp; omega
        have hd1' : decide (j < n) = true := by simp; omega
        have hd2 : decide (fa < a) = false := by simpa using fun h => hgo ⟨_, hf, h⟩
        obtain ⟨g2, o, hga, hc⟩ := (Hd.row_en HN.out.symm HB.out.drop) j _ hf
        simp only [Option.some.injEq, Addr.mk.injEq, and_true] at hga
        obtain ⟨rfl, rfl⟩ := hga
        have d0 := hc 0 _ rfl
        have d1 := hc 1 _ rfl
        have d2 := hc 2 _ rfl
        have d3 := hc 3 _ rfl
        rw [Nat.zero_add] at d1 d2 d3
        rw [Nat.add_zero, Nat.zero_add] at d0
        have zj1 : (j : Int) < (n : Int) := by omega
        obtain ⟨_, _, _, hnc, hcm, _⟩ := HB.out.drop.row_heapS
        have hncr : ¬ (cr = j) := by omega
        have hjn1 : (j : Int) ≤ (n : Int) := by omega
        have hcm2 : cr ≤ 9223372036854775807 := by unfold maxLen at hcm; exact hcm
        clear hc hf out goes hgo hcm
        obtain ⟨ES, hES⟩ : ∃ ES, RS.take j ++ [⟨a, k, x, y⟩] ++ RS.drop j = ES := ⟨_, rfl⟩
        have HL : Hid (ES.length = n + 1) := hid (by rw [← hES]; simp [HN.out]; omega)
        have KP : Hid (rPut es ⟨a, k, x, y⟩ = if n + 1 ≤ 4 then (ES, En.zero, false) else (ES.drop 1, ES.getD 0 En.zero, true)) := hid (by unfold rPut; rw [HO.out.2.2, hES, HL.out])
        have HES := hid hES
        clear hES
        by_cases h4 : n + 1 ≤ 4
        · have d4 : decide ((4 : Int) < (n : Int) + 1) = false := by simp; omega
          go_wp2_with fail
          go_region
          go_wp2_with (at_builtin; refine append_en ⟨a, k, x, y⟩ Try.underlying86 info_RE rfl (.tmp 41) (.tmp 43) rfl rfl HB.out.dr (by rfl) (by rfl) (by omega) ?_; intro g3 c3 w3 h3; have H3 := hid h3; clear h3 b0 b1 b2 b3; have hE := hid ((Hd.row_en HN.out.symm H3.out.drop).drop j); rw [Nat.zero_add] at hE; go_wp2_with (at_builtin; refine append_ensG (es := RS.take j ++ [⟨a, k, x, y⟩]) (fs := RS.drop j) (by rw [List.length_drop, HN.out]) Try.underlying86 info_RE rfl (.tmp 45) (.tmp 48) rfl (by rw [List.length_drop, HN.out]; omega) H3.out hE.out (by rfl) (by rfl) (by omega) ?_; intro g4 c4 w4 h4; rw [HES.out, show j + 1 + (n - j) = n + 1 by omega] at h4; rw [show j + 1 + (n - j) = n + 1 by omega]; have H4 := hid h4.swap.drop; clear h4 hE H3; have hk := H4.out.drop.blk; have r0 := (cell_of_heap hk 0).trans (show _ = some (.int .i64 0) from rfl); have r1 := (cell_of_heap hk 1).trans (show _ = some (.int .i64 0) from rfl); have r2 := (cell_of_heap hk 2).trans (show _ = some (.int .u64 0) from rfl); have r3 := (cell_of_heap hk 3).trans (show _ = some (.int .u64 0) from rfl); have rf := frozen_of_heap hk; have rl := (Array.getElem?_eq_some_iff.1 hk).1; clear hk))
          refine bodyPost_ret (v := .tuple #[.slice (some ⟨g4, 0, none⟩) (n + 1) c4, .agg #[.int .i64 0, .int .i64 0, .int .u64 0, .int .u64 0], .bool false]) (by simp [results, Try.results53, go_sem, r0, r1, r2, r3]) rfl ?_
          rw [KP.out, if_pos h4]
          have HH := ((((H4.out.swap.set 0 (.int .i64 0)).set 1 (.int .i64 0)).set 2 (.int .u64 0)).set 3 (.int .u64 0)).swap
          exact ⟨_, rfl, ⟨_, _, by rw [HL.out], Hd.row_en HL.out.symm HH, fun e => by cases e⟩, HH.row_newSl, HH.below⟩
        · have d4 : decide ((4 : Int) < (n : Int) + 1) = true := by simp; omega
          obtain ⟨⟨ea, ek, ex, ey⟩, hf⟩ : ∃ f, ES[0]? = some f := ⟨ES[0]'(by have := HL.out; omega), List.getElem?_eq_getElem _⟩
          have HF0 := hid hf
          clear hf
          go_wp2_with fail
          go_region
          go_wp2_with (at_builtin; refine append_en ⟨a, k, x, y⟩ Try.underlying86 info_RE rfl (.tmp 41) (.tmp 43) rfl rfl HB.out.dr (by rfl) (by rfl) (by omega) ?_; intro g3 c3 w3 h3; have H3 := hid h3; clear h3 b0 b1 b2 b3; have hE := hid ((Hd.row_en HN.out.symm H3.out.drop).drop j); rw [Nat.zero_add] at hE; go_wp2_with (at_builtin; refine append_ensG (es := RS.take j ++ [⟨a, k, x, y⟩]) (fs := RS.drop j) (by rw [List.length_drop, HN.out]) Try.underlying86 info_RE rfl (.tmp 45) (.tmp 48) rfl (by rw [List.length_drop, HN.out]; omega) H3.out hE.out (by rfl) (by rfl) (by omega) ?_; intro g4 c4 w4 h4; rw [HES.out, show j + 1 + (n - j) = n + 1 by omega] at h4; rw [show j + 1 + (n - j) = n + 1 by omega]; have H4 := hid h4.swap.drop; clear h4 hE H3; have hk := H4.out.drop.blk; have r0 := (cell_of_heap hk 0).trans (show _ = some (.int .i64 0) from rfl); have r1 := (cell_of_heap hk 1).trans (show _ = some (.int .i64 0) from rfl); have r2 := (cell_of_heap hk 2).trans (show _ = some (.int .u64 0) from rfl); have r3 := (cell_of_heap hk 3).trans (show _ = some (.int .u64 0) from rfl); have rf := frozen_of_heap hk; have rl := (Array.getElem?_eq_some_iff.1 hk).1; clear hk; have hnc4 := H4.out.row_heapS; obtain ⟨cur, hg, hcs, hnc4, hcm4, hct⟩ := hnc4; obtain ⟨_, _, hga, hc⟩ := (Hd.row_en HL.out.symm H4.out) 0 _ HF0.out; cases hga; have s0 := hc 0 _ rfl; have s1 := hc 1 _ rfl; have s2 := hc 2 _ rfl; have s3 := hc 3 _ rfl; simp only [Nat.zero_mul, Nat.zero_add, Nat.add_zero] at s0 s1 s2 s3; have gl := (Array.getElem?_eq_some_iff.1 hg).1; have hb2 : ¬ (c4 = 1) := (by omega); have hb3 : c4 ≤ 9223372036854775807 := (by unfold maxLen at hcm4; exact hcm4); have hb4 : (1 : Int) ≤ (n : Int) + 1 := (by omega); have n5 := H4.out.row_apart; have n5' := n5.symm; clear hc hct hcs hg hcm4))
          go_region
          go_wp2_with fail
          refine bodyPost_ret (v := .tuple #[.slice (some ⟨g4, 4, none⟩) n (c4 - 1), .agg #[.int .i64 ea, .int .i64 ek, .int .u64 ex, .int .u64 ey], .bool true]) (by simp [results, Try.results53, go_sem, r0, r1, r2, r3]) rfl ?_
          rw [KP.out, if_neg h4]
          have HH := ((((H4.out.swap.set 0 (.int .i64 ea)).set 1 (.int .i64 ek)).set 2 (.int .u64 ex)).set 3 (.int .u64 ey)).swap.dr
          exact ⟨_, by rw [List.getD_eq_getElem?_getD, HF0.out]; rfl, ⟨_, _, by rw [List.length_drop, HL.out]; rfl, (Hd.row_en HL.out.symm HH).tail, fun e => by cases e⟩, HH.row_newSl.shift, HH.below⟩
      · skip
        obtain rfl : j = n := by omega
        have hd1 : decide ((j : Int) < (j : Int)) = false := by simp
        obtain ⟨_, _, _, hnc, hcm, _⟩ := HB.out.drop.row_heapS
        have hcm2 : cr ≤ 9223372036854775807 := by unfold maxLen at hcm; exact hcm
        obtain ⟨inf, hinf, _⟩ := info_RE
        have Hinf := hid hinf
        clear hinf out goes hgo hlt hcm
        obtain ⟨ES, hES⟩ : ∃ ES, RS.take j ++ [⟨a, k, x, y⟩] ++ RS.drop j = ES := ⟨_, rfl⟩
        have HL : Hid (ES.length = j + 1) := hid (by rw [← hES]; simp [HN.out])
        have KP : Hid (rPut es ⟨a, k, x, y⟩ = if j + 1 ≤ 4 then (ES, En.zero, false) else (ES.drop 1, ES.getD 0 En.zero, true)) := hid (by unfold rPut; rw [HO.out.2.2, hES, HL.out])
        have HES := hid hES
        clear hES
        by_cases h4 : j + 1 ≤ 4
        · have d4 : decide ((4 : Int) < (j : Int) + 1) = false := by simp; omega
          go_wp2_with fail
          go_region
          go_wp2_with (at_builtin; refine append_en ⟨a, k, x, y⟩ Try.underlying86 info_RE rfl (.tmp 41) (.tmp 43) rfl rfl HB.out.dr (by rfl) (by rfl) (by omega) ?_; intro g3 c3 w3 h3; have H3 := hid h3; clear h3 b0 b1 b2 b3; obtain ⟨_, _, _, hnc3, _, _⟩ := H3.out.row_heapS; go_wp2_with (at_builtin; refine append_zero Try.underlying86 Hinf.out rfl (.tmp 45) (.tmp 48) rfl (by rfl) hnc3 (by rfl) ?_; obtain ⟨g4, hg4⟩ : ∃ g4, g3 = g4 := ⟨_, rfl⟩; obtain ⟨c4, hc4⟩ : ∃ c4, c3 = c4 := ⟨_, rfl⟩; obtain ⟨w4, hw4⟩ : ∃ w4, w3 = w4 := ⟨_, rfl⟩; rw [hg4, hc4, hw4] at H3; rw [hg4, hc4, hw4]; have H4 := hid (by have h := H3.out.swap.drop; rwa [show RS.take j ++ [⟨a, k, x, y⟩] = ES by rw [← HES.out, List.drop_eq_nil_of_le (by rw [HN.out]; exact Nat.le_refl _), List.append_nil]] at h : Hd w w4 [RowR 98 4 (.slice (some ⟨g4, 0, none⟩) (j + 1) c4) (j + 1) (ensC ES), Blk (w.heap.size + 1) (.cells #[.int .i64 0, .int .i64 0, .int .u64 0, .int .u64 0] 98 (0, 0)), Blk w.heap.size (.cells #[.int .i64 a, .int .i64 k, .int .u64 x, .int .u64 y] 98 (0, 0))]); clear H3 hg4 hc4 hw4 hnc3; have hk := H4.out.drop.blk; have r0 := (cell_of_heap hk 0).trans (show _ = some (.int .i64 0) from rfl); have r1 := (cell_of_heap hk 1).trans (show _ = some (.int .i64 0) from rfl); have r2 := (cell_of_heap hk 2).trans (show _ = some (.int .u64 0) from rfl); have r3 := (cell_of_heap hk 3).trans (show _ = some (.int .u64 0) from rfl); have rf := frozen_of_heap hk; have rl := (Array.getElem?_eq_some_iff.1 hk).1; clear hk))
          all_goals
            refine bodyPost_ret (v := .tuple #[.slice (some ⟨g4, 0, none⟩) (j + 1) c4, .agg #[.int .i64 0, .int .i64 0, .int .u64 0, .int .u64 0], .bool false]) (by simp [results, Try.results53, go_sem, r0, r1, r2, r3]) rfl ?_
            rw [KP.out, if_pos h4]
            have HH := ((((H4.out.swap.set 0 (.int .i64 0)).set 1 (.int .i64 0)).set 2 (.int .u64 0)).set 3 (.int .u64 0)).swap
            exact ⟨_, rfl, ⟨_, _, by rw [HL.out], Hd.row_en HL.out.symm HH, fun e => by cases e⟩, HH.row_newSl, HH.below⟩
        · have d4 : decide ((4 : Int) < (j : Int) + 1) = true := by simp; omega
          obtain ⟨⟨ea, ek, ex, ey⟩, hf⟩ : ∃ f, ES[0]? = some f := ⟨ES[0]'(by have := HL.out; omega), List.getElem?_eq_getElem _⟩
          have HF0 := hid hf
          clear hf
          go_wp2_with fail
          go_region
          go_wp2_with (at_builtin; refine append_en ⟨a, k, x, y⟩ Try.underlying86 info_RE rfl (.tmp 41) (.tmp 43) rfl rfl HB.out.dr (by rfl) (by rfl) (by omega) ?_; intro g3 c3 w3 h3; have H3 := hid h3; clear h3 b0 b1 b2 b3; obtain ⟨_, _, _, hnc3, _, _⟩ := H3.out.row_heapS; go_wp2_with (at_builtin; refine append_zero Try.underlying86 Hinf.out rfl (.tmp 45) (.tmp 48) rfl (by rfl) hnc3 (by rfl) ?_; obtain ⟨g4, hg4⟩ : ∃ g4, g3 = g4 := ⟨_, rfl⟩; obtain ⟨c4, hc4⟩ : ∃ c4, c3 = c4 := ⟨_, rfl⟩; obtain ⟨w4, hw4⟩ : ∃ w4, w3 = w4 := ⟨_, rfl⟩; rw [hg4, hc4, hw4] at H3; rw [hg4, hc4, hw4]; have H4 := hid (by have h := H3.out.swap.drop; rwa [show RS.take j ++ [⟨a, k, x, y⟩] = ES by rw [← HES.out, List.drop_eq_nil_of_le (by rw [HN.out]; exact Nat.le_refl _), List.append_nil]] at h : Hd w w4 [RowR 98 4 (.slice (some ⟨g4, 0, none⟩) (j + 1) c4) (j + 1) (ensC ES), Blk (w.heap.size + 1) (.cells #[.int .i64 0, .int .i64 0, .int .u64 0, .int .u64 0] 98 (0, 0)), Blk w.heap.size (.cells #[.int .i64 a, .int .i64 k, .int .u64 x, .int .u64 y] 98 (0, 0))]); clear H3 hg4 hc4 hw4 hnc3; have hk := H4.out.drop.blk; have r0 := (cell_of_heap hk 0).trans (show _ = some (.int .i64 0) from rfl); have r1 := (cell_of_heap hk 1).trans (show _ = some (.int .i64 0) from rfl); have r2 := (cell_of_heap hk 2).trans (show _ = some (.int .u64 0) from rfl); have r3 := (cell_of_heap hk 3).trans (show _ = some (.int .u64 0) from rfl); have rf := frozen_of_heap hk; have rl := (Array.getElem?_eq_some_iff.1 hk).1; clear hk; have hnc4 := H4.out.row_heapS; obtain ⟨cur, hg, hcs, hnc4, hcm4, hct⟩ := hnc4; obtain ⟨_, _, hga, hc⟩ := (Hd.row_en HL.out.symm H4.out) 0 _ HF0.out; cases hga; have s0 := hc 0 _ rfl; have s1 := hc 1 _ rfl; have s2 := hc 2 _ rfl; have s3 := hc 3 _ rfl; simp only [Nat.zero_mul, Nat.zero_add, Nat.add_zero] at s0 s1 s2 s3; have gl := (Array.getElem?_eq_some_iff.1 hg).1; have hb2 : ¬ (c4 = 1) := (by omega); have hb3 : c4 ≤ 9223372036854775807 := (by unfold maxLen at hcm4; exact hcm4); have hb4 : (1 : Int) ≤ (j : Int) + 1 := (by omega); have n5 := H4.out.row_apart; have n5' := n5.symm; clear hc hct hcs hg hcm4))
          all_goals go_region
          all_goals go_wp2_with fail
          all_goals
            refine bodyPost_ret (v := .tuple #[.slice (some ⟨g4, 4, none⟩) j (c4 - 1), .agg #[.int .i64 ea, .int .i64 ek, .int .u64 ex, .int .u64 ey], .bool true]) (by simp [results, Try.results53, go_sem, r0, r1, r2, r3]) rfl ?_
            rw [KP.out, if_neg h4]
            have HH := ((((H4.out.swap.set 0 (.int .i64 ea)).set 1 (.int .i64 ek)).set 2 (.int .u64 ex)).set 3 (.int .u64 ey)).swap.dr
            exact ⟨_, by rw [List.getD_eq_getElem?_getD, HF0.out]; rfl, ⟨_, _, by rw [List.length_drop, HL.out]; rfl, (Hd.row_en HL.out.symm HH).tail, fun e => by cases e⟩, HH.row_newSl.shift, HH.below⟩
end Go.Proofs.Ytbaliaodioflfaa
