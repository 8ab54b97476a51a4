/-
  Walks through what the statements of layer 16 share: One and Refs. For every cache.
-/
import Derived.Test.YtbaliaodioflfaaSkipO
import Derived.Test.YtbaliaodioflfaaTurn
import Derived.StillTailTactics
namespace Go.Proofs.Ytbaliaodioflfaa
open Go.RowKit

set_option maxRecDepth 100000 in
set_option maxHeartbeats 4000000 in
theorem ref14_calls (x y : Int) (w : World) :
    Calls Try.prog 91 #[.agg #[.int .u64 x, .int .u64 y]] w fun e w' => e = .returned (.agg #[.int .u64 x, .int .u64 y]) ∧ Below w.heap.size w w' := by
  go_enter Try.func91, Try.ntmps91
  have H := hid ((Hd.boxk (o := .cells #[.int .u64 x, .int .u64 y] 89 (0, 0)) w.heap.size rfl (Hd.refl w)).boxk (o := .cells #[.int .u64 0, .int .u64 0] 96 (0, 0)) (w.heap.size + 1) (by simp))
  obtain ⟨wo, hwo⟩ : ∃ wo, (w.alloc (.cells #[.int .u64 x, .int .u64 y] 89 (0, 0))).alloc (.cells #[.int .u64 0, .int .u64 0] 96 (0, 0)) = wo := ⟨_, rfl⟩
  rw [hwo] at H
  have hk := H.out.drop.blk
  have b0 := (cell_of_heap hk 0).trans (show _ = some (.int .u64 x) from rfl)
  have b1 := (cell_of_heap hk 1).trans (show _ = some (.int .u64 y) from rfl)
  have hk := H.out.blk
  have r0 := (cell_of_heap hk 0).trans (show _ = some (.int .u64 0) from rfl)
  have r1 := (cell_of_heap hk 1).trans (show _ = some (.int .u64 0) from rfl)
  have rf := frozen_of_heap hk
  have rl := (Array.getElem?_eq_some_iff.1 hk).1
  clear hk
  go_wp2_with fail
  refine bodyPost_ret (v := .agg #[.int .u64 x, .int .u64 y]) (by simp [results, Try.results91, go_sem, r0, r1]) rfl ⟨rfl, ?_⟩
  exact ((H.out.set 0 _).set 1 _).below

set_option maxRecDepth 100000 in
set_option maxHeartbeats 8000000 in
theorem one_calls (a k x y : Int) (w : World) :
    Calls Try.prog 54 #[.agg #[.int .i64 a, .int .i64 k, .int .u64 x, .int .u64 y]] w fun e w' => e = .returned (.agg #[.int .i64 a, .int .i64 k, .int .u64 x, .int .u64 y]) ∧ Below w.heap.size w w' := by
  go_enter Try.func54, Try.ntmps54
  have H := hid ((Hd.boxk (o := .cells #[.int .i64 a, .int .i64 k, .int .u64 x, .int .u64 y] 91 (0, 0)) w.heap.size rfl (Hd.refl w)).boxk (o := .cells #[.int .i64 0, .int .i64 0, .int .u64 0, .int .u64 0] 98 (0, 0)) (w.heap.size + 1) (by simp))
  go_wp2_with fail
  obtain ⟨wo, hwo⟩ : ∃ wo, (w.alloc (.cells #[.int .i64 a, .int .i64 k, .int .u64 x, .int .u64 y] 91 (0, 0))).alloc (.cells #[.int .i64 0, .int .i64 0, .int .u64 0, .int .u64 0] 98 (0, 0)) = wo := ⟨_, rfl⟩
  rw [hwo] at H ⊢
  have hk := H.out.drop.blk
  have b0 : ∀ x : Later wo, x.w.cell? ⟨w.heap.size, 0, none⟩ = some (.int .i64 a) := fun z => z.cell ((cell_of_heap hk 0).trans rfl)
  have b1 : ∀ x : Later wo, x.w.cell? ⟨w.heap.size, 1, none⟩ = some (.int .i64 k) := fun z => z.cell ((cell_of_heap hk 1).trans rfl)
  have b2 : ∀ z : Later wo, z.w.cell? ⟨w.heap.size, 2, none⟩ = some (.int .u64 x) := fun z => z.cell ((cell_of_heap hk 2).trans rfl)
  have b3 : ∀ z : Later wo, z.w.cell? ⟨w.heap.size, 3, none⟩ = some (.int .u64 y) := fun z => z.cell ((cell_of_heap hk 3).trans rfl)
  clear hk hwo
  refine wp_region_turn (C := fun w' => ∃ x : Later wo, w' = x.w) 8 _ (by kernel_rfl) (by kernel_rfl) rfl rfl ⟨⟨_, (Below.refl _ _).drew⟩, rfl⟩ ?_
  simp only [List.take_succ_cons, List.take_zero, List.drop_succ_cons, List.drop_zero]
  repeat (go_big_quiet_step ((go_at_call 91; exact Calls.calm (ref14_calls x y _))))
  refine wpQuiet_nil ?_
  intro wt hwt K hK
  have HK := hid hK
  clear hK
  obtain ⟨⟨wt, hbt⟩, rfl⟩ := hwt
  have Ht := hid (H.out.still hbt)
  have hk := Ht.out.blk
  have r0 := (cell_of_heap hk 0).trans (show _ = some (.int .i64 0) from rfl)
  have r1 := (cell_of_heap hk 1).trans (show _ = some (.int .i64 0) from rfl)
  have r2 := (cell_of_heap hk 2).trans (show _ = some (.int .u64 0) from rfl)
  have r3 := (cell_of_heap hk 3).trans (show _ = some (.int .u64 0) from rfl)
  have rf := frozen_of_heap hk
  have rl := (Array.getElem?_eq_some_iff.1 hk).1
  clear hk b0 b1 b2 b3 hbt H
  go_wp2_with fail
  have HF := hid ((((Ht.out.set 0 (.int .i64 a)).set 1 (.int .i64 k)).set 2 (.int .u64 x)).set 3 (.int .u64 y))
  obtain ⟨w4, hw4⟩ : ∃ w4, ((((wt.setCell ⟨w.heap.size + 1, 0, none⟩ (.int .i64 a)).setCell ⟨w.heap.size + 1, 1, none⟩ (.int .i64 k)).setCell ⟨w.heap.size + 1, 2, none⟩ (.int .u64 x)).setCell ⟨w.heap.size + 1, 3, none⟩ (.int .u64 y)) = w4 := ⟨_, rfl⟩
  rw [hw4] at HF ⊢
  have hk := HF.out.blk
  have s0 := (cell_of_heap hk 0).trans (show _ = some (.int .i64 a) from rfl)
  have s1 := (cell_of_heap hk 1).trans (show _ = some (.int .i64 k) from rfl)
  have s2 := (cell_of_heap hk 2).trans (show _ = some (.int .u64 x) from rfl)
  have s3 := (cell_of_heap hk 3).trans (show _ = some (.int .u64 y) from rfl)
  clear hw4 hk r0 r1 r2 r3 rf rl
  refine HK.out _ _ ⟨fun w' => w' = w4, rfl, ?_⟩
  clear HK
  refine wpQuiet_nil ?_
  rintro w4 rfl
  go_wp2_with fail
  exact bodyPost_ret (v := .agg #[.int .i64 a, .int .i64 k, .int .u64 x, .int .u64 y]) (by simp [results, Try.results54, go_sem, s0, s1, s2, s3]) rfl ⟨rfl, HF.out.below⟩

set_option maxRecDepth 100000 in
set_option maxHeartbeats 8000000 in
theorem refs_calls {es : List En} {v : Value} {w : World} (h : CaAt w v es) (hm : es.length ≤ 900) :
    Calls Try.prog 58 #[.agg #[v]] w fun e w' => ∃ u, e = .returned u ∧ LaAt w' u es ∧ Below w.heap.size w w' := by
  obtain ⟨ad, cap, rfl, hat, _⟩ := h.ex
  have H := hid hat
  obtain ⟨len, hl⟩ : ∃ len, len = es.length := ⟨_, rfl⟩
  rw [← hl] at hm ⊢
  have HL := hid hl
  have H0 := hid ((Hd.boxk (o := .cells #[.slice ad len cap] 85 (0, 0)) w.heap.size rfl (Hd.refl w)).row_newS (E := 98) (size := 4))
  clear h hl hat
  go_enter Try.func58, Try.ntmps58
  go_wp2_with fail
  go_loopw [3, 4] (fun u i wr => ∃ (j g c : Nat), j ≤ len ∧ i = .int .i64 j ∧ u = .slice (some ⟨g, 0, none⟩) j c ∧ Hid (Hd w wr [RowR 98 4 (.slice (some ⟨g, 0, none⟩) j c) j (ensC (es.take j)), Blk w.heap.size (.cells #[.slice ad len cap] 85 (0, 0))])) (fun _ i _ => len - (intOf i).toNat)
  case atStart => exact ⟨0, _, _, Nat.zero_le _, rfl, rfl, hid (by have h := H0.out; rw [show (w.alloc (.cells #[.slice ad len cap] 85 (0, 0))).heap.size = w.heap.size + 1 by simp] at h; exact h)⟩
  case round =>
    clear H0
    obtain ⟨j, g, c, hj, rfl, rfl, HB⟩ := hrel
    obtain ⟨wo, hwo⟩ : ∃ wo : World, wo = wr := ⟨_, rfl⟩
    rw [← hwo] at HB ⊢
    clear hwo wr
    have hk := HB.out.drop.blk
    have b0 := (cell_of_heap hk 0).trans (show _ = some (.slice ad len cap) from rfl)
    clear hk
    by_cases hlt : j < len
    · have hd1 : decide ((j : Int) < (len : Int)) = true := by simp; omega
      have hd1' : decide (j < len) = true := by simp; omega
      have hml : j < es.length := by rw [← HL.out]; omega
      obtain ⟨⟨a, k, x, y⟩, he⟩ : ∃ e, es[j]? = some e := ⟨es[j], List.getElem?_eq_getElem hml⟩
      obtain ⟨g2, o, rfl, hc⟩ := (H.out.later HB.out.below) j _ he
      have d0 := hc 0 _ rfl
      have d1 := hc 1 _ rfl
      have d2 := hc 2 _ rfl
      have d3 := hc 3 _ rfl
      rw [Nat.add_zero] at d0
      have HT : Hid (es.take (j + 1) = es.take j ++ [⟨a, k, x, y⟩]) := hid (by rw [List.take_add_one, he]; rfl)
      have zm0 : (0 : Int) ≤ (j : Int) := by omega
      have zm1 : (j : Int) < (len : Int) := by omega
      clear hc he hml
      go_wp2_with fail
      refine (one_calls a k x y _).mono ?_
      rintro e w2 ⟨rfl, hb⟩
      have H2 := hid (HB.out.still hb)
      clear hb d0 d1 d2 d3 b0
      go_wp2_with (at_builtin; refine append_en ⟨a, k, x, y⟩ Try.underlying86 info_RE rfl (.tmp 13) (.tmp 20) rfl rfl H2.out (by rfl) (by rfl) (by omega) ?_; intro g3 c3 w3 h3; have H3 := hid h3; clear h3)
      go_roundw
      case rel => exact ⟨j + 1, g3, c3, by omega, by go_num, rfl, hid (by rw [HT.out]; exact H3.out)⟩
      case measure => simp [intOf]; omega
    · obtain rfl : j = len := by omega
      have hd1 : decide ((j : Int) < (j : Int)) = false := by simp
      clear hlt
      go_wp2_with fail
      go_ret
      have h2 := HB.out
      rw [List.take_of_length_le (by rw [HL.out]; exact Nat.le_refl _)] at h2
      refine ⟨.slice (some ⟨g, 0, none⟩) j c, rfl, ⟨_, c, by rw [← HL.out], Hd.row_en HL.out h2, fun e => by cases e⟩, h2.below⟩
end Go.Proofs.Ytbaliaodioflfaa
