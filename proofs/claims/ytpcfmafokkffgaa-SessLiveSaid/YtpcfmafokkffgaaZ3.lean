/-
  Walks and laws that the proof stands on, one behind another: RPutB PureB RefC Stores Room Hd2 PureL Kdf RKdf Made Hd3 ChainA ChainB Own. For every input.
-/
import Derived.Test.YtpcfmafokkffgaaZ2
import Derived.Deep.RegionHeld3
import Derived.Deep.RegionLaw
import Derived.Test.YtpcfmafokkffgaaZ1
import Derived.Laws.Rows
import Derived.RangeFuncNested
import Derived.RangeFuncBound
import Derived.RangeFuncCalls
import Derived.RangeFuncLeaves
import Derived.Shelf.Abstract
import Derived.Shelf.RegionOpen
import Derived.OwnWalkIn
import Derived.TacticsInMore
import Derived.LoopNIn
import Derived.LoopIn
import Derived.Deep.AppendLies
namespace Go.Proofs.Ytpcfmafokkffgaa
open Go.RowKit

/-- What a put of a new term leaves. -/
def RPutPost (b : Nat) (L : List T) (m : Int) (t : T) (f : Frag) (w w' : World) : Prop :=
  ∃ g : Frag, RSto b (L ++ [t]) m g ∧ FragIn g w' ∧ (∀ k, g k ≠ none → f k ≠ none ∨ w.heap.size ≤ k) ∧ w'.os = w.os ∧ w'.tape = w.tape ∧ w'.output = w.output ∧ w.heap.size ≤ w'.heap.size ∧ (∀ k, k < w.heap.size → f k = none → w'.heap[k]? = w.heap[k]?)

theorem rinfo_T : ∃ i, Try.prog.info? 114 = some i ∧ i.zero = some (T.val zeroT) ∧ i.size = 6 ∧ i.bytes = 56 := info_parts (by kernel_rfl)
theorem cells_one (t : T) : ∀ v ∈ t.cells, v.oneCell' = true := by
  intro u hu
  simp only [T.cells, List.mem_cons, List.not_mem_nil, or_false] at hu
  rcases hu with rfl | rfl | rfl | rfl | rfl | rfl <;> rfl

theorem rsto_owns {w w' : World} {b : Nat} {L : List T} {m : Int} {f : Frag} (h : RSto b L m f) (hf : FragIn f w) (hb : Below w.heap.size w w') : ∃ a cap, RStoAt w b L m a cap ∧ w'.ownsRow 0 114 6 (.slice a L.length cap) L.length (cellsOf L) ∧
    (∀ g, (Value.slice a L.length cap).ownBlock = some g → g ≠ b ∧ g < w.heap.size ∧ f g ≠ none) ∧ w.heap[b]? = some (.cells #[.slice a L.length cap, .int .i64 m] 131 (0, 0)) ∧ f b ≠ none := by
  obtain ⟨hok, h | h⟩ := h
  · obtain ⟨rfl, rfl⟩ := h
    have h0 : w.heap[b]? = some (.cells #[.slice none 0 0, .int .i64 m] 131 (0, 0)) := hf b _ (by simp [rFrag])
    refine ⟨none, 0, ⟨hok, by rw [cell_of_heap h0]; rfl, by rw [cell_of_heap h0]; rfl, fun j => frozen_of_heap h0 j, fun i t hi => by simp at hi, (Array.getElem?_eq_some_iff.1 h0).1⟩, ⟨rfl, .inl ⟨rfl, rfl⟩⟩, fun g e => by simp [Value.ownBlock] at e, h0, by simp [rFrag]⟩
  · obtain ⟨g, cap, cur, hne, rfl, h1, h2, h3, h4⟩ := h
    have h0 : w.heap[b]? = some (.cells #[.slice (some ⟨g, 0, none⟩) L.length cap, .int .i64 m] 131 (0, 0)) := hf b _ (by simp [rFrag])
    have hg : w.heap[g]? = some (.cells cur 114 (0, 0)) := hf g _ (by simp [rFrag, Ne.symm hne])
    have hlt := (Array.getElem?_eq_some_iff.1 hg).1
    refine ⟨some ⟨g, 0, none⟩, cap, ⟨hok, by rw [cell_of_heap h0]; rfl, by rw [cell_of_heap h0]; rfl, fun j => frozen_of_heap h0 j, fun i t hi => ⟨g, rfl, hlt, fun j v hj => ?_⟩, (Array.getElem?_eq_some_iff.1 h0).1⟩, ⟨cellsOf_length _, .inr ⟨g, cap, cur, rfl, Nat.zero_le _, (hb.block g hlt).trans hg, h2, h3, h1, h4⟩⟩, fun g' e => ?_, h0, by simp [rFrag]⟩
    · rw [cell_of_heap hg, ← Array.getElem?_toList]
      exact get_of_take h4 (cellsOf_get hi hj)
    · simp only [Value.ownBlock, Option.some.injEq] at e
      subst e
      exact ⟨Ne.symm hne, hlt, by simp [rFrag, Ne.symm hne]⟩
theorem rput_end {b : Nat} {L : List T} {m : Int} {f : Frag} {t : T} {w X w5 : World} {a : Option Addr} {cap g2 cap2 : Nat} (hok : RGood L m) (hb : Below w.heap.size w X) (hh : w.heap[b]? = some (.cells #[.slice a L.length cap, .int .i64 m] 131 (0, 0))) (hfb : f b ≠ none)
    (hgb : ∀ g, (Value.slice a L.length cap).ownBlock = some g → g ≠ b ∧ g < w.heap.size ∧ f g ≠ none) (ho : w5.ownsRow 0 114 6 (.slice (some ⟨g2, 0, none⟩) (L.length + 1) cap2) (L.length + 1) (cellsOf L ++ T.cells t)) (hg : X.grownBy w5 (Value.slice a L.length cap).ownBlock)
    (hgg : (Value.slice a L.length cap).ownBlock = some g2 ∨ g2 = X.heap.size) (hm : t.may L.length) (hi : find t L = none) (hlt : (L.length : Int) < m) :
    RPutPost b L m t f w (w5.setCell ⟨b, 0, none⟩ (.slice (some ⟨g2, 0, none⟩) (L.length + 1) cap2)) := by
  have hbl : b < w.heap.size := (Array.getElem?_eq_some_iff.1 hh).1
  have hsX := hb.size
  have hs5 := hg.size
  have hg2 : g2 ≠ b := by
    rcases hgg with h | h
    · exact (hgb g2 h).1
    · omega
  obtain ⟨_, ⟨h, _⟩ | ⟨g', cap', cur, hv, _, h2, h3, h4, h5, h6⟩⟩ := ho
  · cases h
  obtain ⟨rfl, rfl⟩ : g' = g2 ∧ cap' = cap2 := by simp at hv; exact ⟨hv.1.symm, hv.2.symm⟩
  have hk : ∀ k, k ≠ b → (w5.setCell ⟨b, 0, none⟩ (.slice (some ⟨g', 0, none⟩) (L.length + 1) cap')).heap[k]? = w5.heap[k]? := fun k hk => Below.heap_setCell _ _ _ _ hk
  have h5b : w5.heap[b]? = some (.cells #[.slice a L.length cap, .int .i64 m] 131 (0, 0)) := by
    rw [hg.block b (by omega) (fun e => (hgb b e.symm).1 rfl), hb.block b hbl]; exact hh
  refine ⟨rFrag b (.slice (some ⟨g', 0, none⟩) (L.length + 1) cap') m (some (g', cur)), ⟨⟨hok.good.snoc hm (find_none.1 hi), hok.m0, hok.m1, by simp; omega⟩, .inr ⟨g', cap', cur, Ne.symm hg2, by simp, h5, by simpa using h3, h4, ?_⟩⟩, fun k o hk' => ?_, fun k hk' => ?_, hg.os.trans hb.os, hg.tape.trans hb.tape, hg.output.trans hb.output, by simpa using Nat.le_trans hsX hs5, fun k hk1 hk2 => ?_⟩
  · rw [show (L ++ [t]).length = L.length + 1 from by simp, h6]
    simp [cellsOf]
  · unfold rFrag at hk'
    split at hk'
    · rename_i e
      subst e
      simp only [World.setCell, Array.getElem?_modify, h5b]
      simpa using hk'
    · simp only at hk'
      split at hk'
      · rename_i e; subst e; rw [hk _ hg2, h2]; exact hk'
      · cases hk'
  · unfold rFrag at hk'
    split at hk'
    · rename_i e; subst e; exact .inl hfb
    · simp only at hk'
      split at hk'
      · rename_i e
        subst e
        rcases hgg with h | h
        · exact .inl (hgb _ h).2.2
        · right; omega
      · exact absurd rfl hk'
  · rw [hk k (fun e => hfb (e ▸ hk2)), hg.block k (by omega) (fun e => (hgb k e.symm).2.2 hk2), hb.block k hk1]

set_option maxRecDepth 100000 in
set_option maxHeartbeats 4000000 in
theorem rput_new {b : Nat} {L : List T} {m : Int} {f : Frag} (k : Int) (s : ByteArray) (n a1 b1 c1 : Int) {w : World} (hR : RSto b L m f) (hfr : FragIn f w) (hm : T.may L.length ⟨k, s, n, a1, b1, c1⟩) (hi : find ⟨k, s, n, a1, b1, c1⟩ L = none) (hroom : (L.length : Int) < m) :
    Calls Try.prog 52 #[.pointer (some ⟨b, 0, none⟩), T.val ⟨k, s, n, a1, b1, c1⟩] w fun e w' => e = .returned (.tuple #[.int .i64 ((L.length : Int) + 1), .int .i64 0]) ∧ RPutPost b L m ⟨k, s, n, a1, b1, c1⟩ f w w' := by
  obtain ⟨a, cap, h, _, hgb, hh, hfb⟩ := rsto_owns hR hfr (Below.refl _ _)
  have Hh := hid hh
  have Hfb := hid hfb
  have Hok := hid h.ok
  clear hh hfb
  have HR := hid hR
  have Hfr := hid hfr
  have Hgb := hid hgb
  clear hR hfr hgb
  have Hi := hid hi
  have hl : L.length ≤ 1048576 := by have := h.ok.m1; have := h.ok.len; omega
  have Hm := hid hm
  clear hi
  have Hq : Hid (∀ w', RStoAt w' b L m a cap → Calls Try.prog 78 #[.pointer (some ⟨b, 0, none⟩), .agg #[.int .i64 k, .string s, .int .u64 n, .int .i64 a1, .int .i64 b1, .int .i64 c1]] w' fun e w'' => e = .returned (.bool true) ∧ Below w'.heap.size w' w'') := hid fun w' h' => by
    have hq := rmay_calls k s n a1 b1 c1 h'
    rw [decide_eq_true hm] at hq
    exact hq
  have Hs : Hid (∀ o, RStoAt (w.alloc o) b L m a cap) := hid fun o => h.later ((Below.refl _ _).alloc (Nat.le_refl _) _)
  clear h hm
  simp only [T.val]
  go_enter Try.func52, Try.ntmps52
  go_wp2_with fail
  refine (Hq.out _ (Hs.out _)).mono ?_
  rintro e w1 ⟨rfl, hb1⟩
  have hs1 := (Hs.out _).later hb1
  have hbox : w1.heap[w.heap.size]? = some (.cells #[.int .i64 k, .string s, .int .u64 n, .int .i64 a1, .int .i64 b1, .int .i64 c1] 114) := by rw [hb1.block _ (by simp)]; exact heap_at rfl
  have hbw : Below w.heap.size w w1 := ((Below.refl _ _).alloc (Nat.le_refl _) _).trans (hb1.mono (by simp <;> omega))
  clear hb1
  have d0 : ∀ x : Later w1, x.w.cell? ⟨w.heap.size, 0, none⟩ = some (.int .i64 k) := fun x => x.cell (by rw [cell_of_heap hbox]; rfl)
  have d1 : ∀ x : Later w1, x.w.cell? ⟨w.heap.size, 1, none⟩ = some (.string s) := fun x => x.cell (by rw [cell_of_heap hbox]; rfl)
  have d2 : ∀ x : Later w1, x.w.cell? ⟨w.heap.size, 2, none⟩ = some (.int .u64 n) := fun x => x.cell (by rw [cell_of_heap hbox]; rfl)
  have d3 : ∀ x : Later w1, x.w.cell? ⟨w.heap.size, 3, none⟩ = some (.int .i64 a1) := fun x => x.cell (by rw [cell_of_heap hbox]; rfl)
  have d4 : ∀ x : Later w1, x.w.cell? ⟨w.heap.size, 4, none⟩ = some (.int .i64 b1) := fun x => x.cell (by rw [cell_of_heap hbox]; rfl)
  have d5 : ∀ x : Later w1, x.w.cell? ⟨w.heap.size, 5, none⟩ = some (.int .i64 c1) := fun x => x.cell (by rw [cell_of_heap hbox]; rfl)
  have D0 := hid d0
  have D1 := hid d1
  have D2 := hid d2
  have D3 := hid d3
  have D4 := hid d4
  have D5 := hid d5
  have Hs1 := hid hs1
  have Hbox := hid hbox
  have Hbw := hid hbw
  clear hbox hbw hs1 d0 d1 d2 d3 d4 d5
  go_wp2_with fail
  go_loopw [6] (fun i6 wr => ∃ j : Nat, j ≤ L.length ∧ i6 = .int .i64 j ∧ Hid (Below w1.heap.size w1 wr)) (fun i6 _ => L.length - (intOf i6).toNat)
  case atStart => exact ⟨0, Nat.zero_le _, rfl, hid (Below.refl _ _)⟩
  case round =>
    obtain ⟨j, hj, rfl, Hb⟩ := hrel
    by_cases hlt : j < L.length
    · obtain ⟨t, ht⟩ : ∃ t, L[j]? = some t := ⟨L[j]'(by omega), List.getElem?_eq_getElem _⟩
      have hu : t ≠ ⟨k, s, n, a1, b1, c1⟩ := fun e => find_none.1 Hi.out (by rw [← e]; exact List.mem_of_getElem? ht)
      obtain ⟨k', s', n', a2, b2, c2⟩ := t
      obtain ⟨g, rfl, hg, hc⟩ := Hs1.out.cl j ⟨k', s', n', a2, b2, c2⟩ ht
      have e0 : ∀ x : Later wr, x.w.cell? ⟨b, 0, none⟩ = some (.slice (some ⟨g, 0, none⟩) L.length cap) := fun x => x.cell ((Hb.out.cell (p := ⟨b, 0, none⟩) Hs1.out.lt).trans Hs1.out.c0)
      have r0 : wr.cell? ⟨b, 0, none⟩ = some (.slice (some ⟨g, 0, none⟩) L.length cap) := (Hb.out.cell (p := ⟨b, 0, none⟩) Hs1.out.lt).trans Hs1.out.c0
      have g0 : ∀ x : Later wr, x.w.cell? ⟨g, j * 6, none⟩ = some (.int .i64 k') := fun x => x.cell ((Hb.out.cell (p := ⟨g, j * 6 + 0, none⟩) hg).trans (hc 0 _ rfl))
      have g1 : ∀ x : Later wr, x.w.cell? ⟨g, j * 6 + 1, none⟩ = some (.string s') := fun x => x.cell ((Hb.out.cell (p := ⟨g, j * 6 + 1, none⟩) hg).trans (hc 1 _ rfl))
      have g2 : ∀ x : Later wr, x.w.cell? ⟨g, j * 6 + 2, none⟩ = some (.int .u64 n') := fun x => x.cell ((Hb.out.cell (p := ⟨g, j * 6 + 2, none⟩) hg).trans (hc 2 _ rfl))
      have g3 : ∀ x : Later wr, x.w.cell? ⟨g, j * 6 + 3, none⟩ = some (.int .i64 a2) := fun x => x.cell ((Hb.out.cell (p := ⟨g, j * 6 + 3, none⟩) hg).trans (hc 3 _ rfl))
      have g4 : ∀ x : Later wr, x.w.cell? ⟨g, j * 6 + 4, none⟩ = some (.int .i64 b2) := fun x => x.cell ((Hb.out.cell (p := ⟨g, j * 6 + 4, none⟩) hg).trans (hc 4 _ rfl))
      have g5 : ∀ x : Later wr, x.w.cell? ⟨g, j * 6 + 5, none⟩ = some (.int .i64 c2) := fun x => x.cell ((Hb.out.cell (p := ⟨g, j * 6 + 5, none⟩) hg).trans (hc 5 _ rfl))
      have f0 : ∀ x : Later wr, x.w.cell? ⟨w.heap.size, 0, none⟩ = some (.int .i64 k) := fun x => D0.out ⟨x.w, Hb.out.trans (x.below.mono Hb.out.size)⟩
      have f1 : ∀ x : Later wr, x.w.cell? ⟨w.heap.size, 1, none⟩ = some (.string s) := fun x => D1.out ⟨x.w, Hb.out.trans (x.below.mono Hb.out.size)⟩
      have f2 : ∀ x : Later wr, x.w.cell? ⟨w.heap.size, 2, none⟩ = some (.int .u64 n) := fun x => D2.out ⟨x.w, Hb.out.trans (x.below.mono Hb.out.size)⟩
      have f3 : ∀ x : Later wr, x.w.cell? ⟨w.heap.size, 3, none⟩ = some (.int .i64 a1) := fun x => D3.out ⟨x.w, Hb.out.trans (x.below.mono Hb.out.size)⟩
      have f4 : ∀ x : Later wr, x.w.cell? ⟨w.heap.size, 4, none⟩ = some (.int .i64 b1) := fun x => D4.out ⟨x.w, Hb.out.trans (x.below.mono Hb.out.size)⟩
      have f5 : ∀ x : Later wr, x.w.cell? ⟨w.heap.size, 5, none⟩ = some (.int .i64 c1) := fun x => D5.out ⟨x.w, Hb.out.trans (x.below.mono Hb.out.size)⟩
      have hj0 : (0 : Int) ≤ (j : Int) := by omega
      have hj1 : (j : Int) < (L.length : Int) := by omega
      have hd1 : decide ((j : Int) < (L.length : Int)) = true := by simp; omega
      have hd2 : decide (j < L.length) = true := by simp; omega
      have heq : ∀ w : World, (binOp .eql 114 (.agg #[.int .i64 k', .string s', .int .u64 n', .int .i64 a2, .int .i64 b2, .int .i64 c2]) (.agg #[.int .i64 k, .string s, .int .u64 n, .int .i64 a1, .int .i64 b1, .int .i64 c1])).run Try.prog w = .ok (.bool false) w := fun w => by
        have := reql_T ⟨k', s', n', a2, b2, c2⟩ ⟨k, s, n, a1, b1, c1⟩ w
        rw [decide_eq_false hu] at this
        exact this
      clear hu hc hg
      go_wp2_with fail
      refine wp_region_calm (by kernel_rfl) (by kernel_rfl) ?_
      repeat (go_big_quiet_step (fail))
      refine wpQuiet_nil ?_
      intro w3 hw3
      obtain ⟨⟨w3, hb3⟩, rfl⟩ := hw3
      clear e0 r0 g0 g1 g2 g3 g4 g5 f0 f1 f2 f3 f4 f5 heq
      go_wp2_with fail
      go_roundw
      case rel => exact ⟨j + 1, by omega, by go_num, hid (Hb.out.trans (hb3.mono Hb.out.size))⟩
      case measure => simp [intOf]; omega
    · obtain rfl : j = L.length := by omega
      have r0 : wr.cell? ⟨b, 0, none⟩ = some (.slice a L.length cap) := (Hb.out.cell (p := ⟨b, 0, none⟩) Hs1.out.lt).trans Hs1.out.c0
      have e0 : ∀ x : Later wr, x.w.cell? ⟨b, 0, none⟩ = some (.slice a L.length cap) := fun x => x.cell r0
      have e1 : ∀ x : Later wr, x.w.cell? ⟨b, 1, none⟩ = some (.int .i64 m) := fun x => x.cell ((Hb.out.cell (p := ⟨b, 1, none⟩) Hs1.out.lt).trans Hs1.out.c1)
      have hd : decide (m ≤ (L.length : Int)) = false := by simpa using hroom
      have Hroom := hid hroom
      clear hroom hlt hj
      go_wp2_with fail
      refine wp_region_calm (by kernel_rfl) (by kernel_rfl) ?_
      repeat (go_big_quiet_step (fail))
      refine wpQuiet_nil ?_
      intro w3 hw3
      obtain ⟨⟨w3, hb3⟩, rfl⟩ := hw3
      clear e0 r0 e1
      go_wp2_with fail
      have hb13 : Below w1.heap.size w1 w3 := Hb.out.trans (hb3.mono Hb.out.size)
      have hbw3 : Below w.heap.size w w3 := Hbw.out.trans (hb13.mono Hbw.out.size)
      have hbox3 : w3.heap[w.heap.size]? = _ := (hb13.block _ (Array.getElem?_eq_some_iff.1 Hbox.out).1).trans Hbox.out
      obtain ⟨a', cap', hat', hown, hgb', _, _⟩ := rsto_owns HR.out Hfr.out hbw3
      obtain ⟨rfl, rfl⟩ : a' = a ∧ cap' = cap := by
        have e := (hbw3.cell (p := ⟨b, 0, none⟩) hat'.lt).trans hat'.c0
        have e2 := (hb13.cell (p := ⟨b, 0, none⟩) Hs1.out.lt).trans Hs1.out.c0
        rw [e2] at e
        simp only [Option.some.injEq, Value.slice.injEq] at e
        exact ⟨e.1.symm, e.2.2.symm⟩
      have x0 : w3.cell? ⟨b, 0, none⟩ = some (.slice a' L.length cap') := (hb13.cell (p := ⟨b, 0, none⟩) Hs1.out.lt).trans Hs1.out.c0
      have xf : w3.frozen? ⟨b, 0, none⟩ = false := (hb13.frozen (p := ⟨b, 0, none⟩) Hs1.out.lt).trans (Hs1.out.fz 0)
      have y0 : w3.cell? ⟨w.heap.size, 0, none⟩ = some (.int .i64 k) := by rw [cell_of_heap hbox3]; rfl
      have y1 : w3.cell? ⟨w.heap.size, 1, none⟩ = some (.string s) := by rw [cell_of_heap hbox3]; rfl
      have y2 : w3.cell? ⟨w.heap.size, 2, none⟩ = some (.int .u64 n) := by rw [cell_of_heap hbox3]; rfl
      have y3 : w3.cell? ⟨w.heap.size, 3, none⟩ = some (.int .i64 a1) := by rw [cell_of_heap hbox3]; rfl
      have y4 : w3.cell? ⟨w.heap.size, 4, none⟩ = some (.int .i64 b1) := by rw [cell_of_heap hbox3]; rfl
      have y5 : w3.cell? ⟨w.heap.size, 5, none⟩ = some (.int .i64 c1) := by rw [cell_of_heap hbox3]; rfl
      obtain ⟨i0, hi0, hz0, hs0, hy0⟩ := rinfo_T
      have Hi0 := hid hi0
      have Hz0 := hid hz0
      have Hs0 := hid hs0
      have Hy0 := hid hy0
      have Hown := hid hown
      have Hb3 := hid hbw3
      have hlt3 : b < w3.heap.size := Nat.lt_of_lt_of_le hat'.lt hbw3.size
      have hbl : w.heap.size < w3.heap.size := (Array.getElem?_eq_some_iff.1 hbox3).1
      have Hne : Hid (∀ g, (Value.slice a' L.length cap').ownBlock = some g → g ≠ w.heap.size) := hid fun g e => by have := (hgb' g e).2.1; omega
      have Hnb : Hid (∀ g, (Value.slice a' L.length cap').ownBlock = some g → g ≠ b) := hid fun g e => (hgb' g e).1
      have hnbw : b ≠ w.heap.size := by have := hat'.lt; omega
      clear hi0 hz0 hs0 hy0 hown hbw3 hb13 hbox3 hat' hgb' hb3
      have hne3 := World.new_ne w3 ⟨b, 0, none⟩ x0
      go_region_law
        ((refine step_append_lies _ (by rfl) (.tmp 45) (.tmp 47) 129 (by rfl) 0 114 i0 (T.val zeroT) 6 56 (by kernel_rfl) Hi0.out Hz0.out Hs0.out Hy0.out rfl (by decide) (.slice a' L.length cap') L.length (cellsOf L) (by rfl) (Hown.out.alloc _) ⟨w3.heap.size, 0, none⟩ 1 1 (T.cells ⟨k, s, n, a1, b1, c1⟩) (by rfl) rfl (World.news_of_block (heap_alloc_new _ _)) (cells_one _) (by decide) (by simp only [maxLen]; omega) (by omega) (Nat.zero_le _) (w3.heap.size + 1) (by simp) ?_; intro g2 cap2 w5 hown5 hgrow5 hat5 hlt5; have z0 : w5.cell? ⟨b, 0, none⟩ = some (.slice a' L.length cap') := by { rw [hgrow5.cell_far _ (by simp; omega) (fun e => Hnb.out _ e.symm rfl)]; exact (((Below.refl w3.heap.size w3).alloc (Nat.le_refl _) _).cell (p := ⟨b, 0, none⟩) hlt3).trans x0 }; have zf : w5.frozen? ⟨b, 0, none⟩ = false := by { rw [hgrow5.frozen_far _ (by simp; omega) (fun e => Hnb.out _ e.symm rfl)]; exact (((Below.refl w3.heap.size w3).alloc (Nat.le_refl _) _).frozen (p := ⟨b, 0, none⟩) hlt3).trans xf }))
      all_goals
        clear y0 y1 y2 y3 y4 y5 x0 xf
        have Hown5 := hid hown5
        have Hgrow5 := hid hgrow5
        have Hat5 := hid hat5
        clear hown5 hgrow5 hat5
        go_wp2_with fail
        go_ret2
        exact ⟨rfl, rput_end Hok.out (Hb3.out.trans (Below.mono (Below.alloc (Below.refl w3.heap.size w3) (Nat.le_refl w3.heap.size) (.cells #[.int .i64 k, .string s, .int .u64 n, .int .i64 a1, .int .i64 b1, .int .i64 c1] 114)) Hb3.out.size)) Hh.out Hfb.out Hgb.out Hown5.out ⟨Hgrow5.out.os, Hgrow5.out.tape, Hgrow5.out.output, Hgrow5.out.size, Hgrow5.out.block⟩ (Hat5.out.imp id fun e => by rw [e]; simp) Hm.out Hi.out Hroom.out⟩

/-- THE DOCUMENT'S PUT: what it answers, and what the store then is. -/
theorem rput_calls {W w : World} {Rs : List Res} {b : Nat} {L : List T} {m : Int} (k : Int) (s : ByteArray) (n a b' c : Int) (h : Hd W w (RSto b L m :: Rs)) :
    Calls Try.prog 52 #[.pointer (some ⟨b, 0, none⟩), T.val ⟨k, s, n, a, b', c⟩] w fun e w' =>
      e = .returned (.tuple #[.int .i64 (put m L ⟨k, s, n, a, b', c⟩).1, .int .i64 (put m L ⟨k, s, n, a, b', c⟩).2.1]) ∧ Hd W w' (RSto b (put m L ⟨k, s, n, a, b', c⟩).2.2 m :: Rs) := by
  obtain ⟨a0, cap, hat⟩ := h.rsto
  by_cases hm : T.may L.length ⟨k, s, n, a, b', c⟩
  case neg =>
    have e : put m L ⟨k, s, n, a, b', c⟩ = (0, 1, L) := by unfold put; rw [if_neg hm]
    rw [e]
    exact (rput_no k s n a b' c hat hm).mono fun _ _ ⟨h1, h2⟩ => ⟨h1, h.still h2⟩
  cases hi : find ⟨k, s, n, a, b', c⟩ L with
  | some i =>
    have e : put m L ⟨k, s, n, a, b', c⟩ = ((i : Int) + 1, 0, L) := by unfold put; rw [if_pos hm, hi]
    rw [e]
    exact (rput_is k s n a b' c hat hm hi).mono fun _ _ ⟨h1, h2⟩ => ⟨h1, h.still h2⟩
  | none =>
    by_cases hfull : m ≤ L.length
    · have e : put m L ⟨k, s, n, a, b', c⟩ = (0, 4, L) := by unfold put; rw [if_pos hm, hi]; simp [hfull]
      rw [e]
      exact (rput_full k s n a b' c hat hm hi hfull).mono fun _ _ ⟨h1, h2⟩ => ⟨h1, h.still h2⟩
    · have e : put m L ⟨k, s, n, a, b', c⟩ = ((L.length : Int) + 1, 0, L ++ [⟨k, s, n, a, b', c⟩]) := by unfold put; rw [if_pos hm, hi]; simp [hfull]
      rw [e]
      obtain ⟨f, hR, hf, _, hclose⟩ := h.open
      refine (rput_new k s n a b' c hR hf hm hi (by omega)).mono fun _ w' ⟨h1, g, hg, hgi, hgn, g1, g2, g3, g4, g5⟩ => ⟨h1, ?_⟩
      exact hclose w' _ g hg hgi hgn g1 g2 g3 g4 g5
end Go.Proofs.Ytpcfmafokkffgaa
namespace Go.Proofs.Ytpcfmafokkffgaa

/-- i is the name of t. -/
structure At (L : List T) (i : Int) (t : T) : Prop where
  lo : 1 ≤ i
  hi : i ≤ L.length
  is : L[(i - 1).toNat]? = some t

/-- L' is L and more. -/
def Ext (L L' : List T) : Prop := ∃ M, L' = L ++ M

theorem Ext.refl (L : List T) : Ext L L := ⟨[], by simp⟩
theorem Ext.trans {A B C : List T} (h : Ext A B) (k : Ext B C) : Ext A C := by
  obtain ⟨M, rfl⟩ := h; obtain ⟨N, rfl⟩ := k; exact ⟨M ++ N, by simp⟩
theorem Ext.len {A B : List T} (h : Ext A B) : A.length ≤ B.length := by
  obtain ⟨M, rfl⟩ := h; simp

theorem At.ext {L L' : List T} {i : Int} {t : T} (h : At L i t) (e : Ext L L') : At L' i t := by
  obtain ⟨M, rfl⟩ := e
  refine ⟨h.lo, by have := h.hi; simp; omega, ?_⟩
  rw [List.getElem?_append_left (by have := h.hi; have := h.lo; omega)]
  exact h.is
theorem At.same {L : List T} {i : Int} {t u : T} (h : At L i t) (k : At L i u) : t = u := Option.some.inj (h.is.symm.trans k.is)
theorem At.name {L : List T} {i j : Int} {t : T} (g : Good L) (h : At L i t) (k : At L j t) : i = j := by
  have := g.nodup _ _ t h.is k.is
  have := h.lo; have := k.lo; omega
theorem At.may {L : List T} {i : Int} {t : T} (g : Good L) (h : At L i t) : t.may L.length :=
  T.may_mono (g.may _ _ h.is) (by have := h.hi; have := h.lo; omega)
theorem At.getT {L : List T} {i : Int} {t : T} (h : At L i t) : getT L i = t ∧ getB L i = true := by
  simp only [Go.Proofs.Ytpcfmafokkffgaa.getT, getB, get, if_pos h.lo, h.is]
  exact ⟨rfl, rfl⟩
theorem at_of {L : List T} {i : Int} (h1 : 1 ≤ i) (h2 : i ≤ L.length) : ∃ t, At L i t :=
  ⟨L[(i - 1).toNat]'(by omega), h1, h2, List.getElem?_eq_getElem (by omega)⟩
theorem at_getT {L : List T} {i : Int} (h1 : 1 ≤ i) (h2 : i ≤ L.length) : At L i (getT L i) := by
  obtain ⟨t, h⟩ := at_of h1 h2
  rw [h.getT.1]; exact h

theorem find_at {t : T} {L : List T} {i : Nat} (h : find t L = some i) : At L ((i : Int) + 1) t :=
  ⟨by omega, by have := find_lt h; omega, by rw [show ((i : Int) + 1 - 1).toNat = i by omega]; exact find_some h⟩

/-- What a put leaves. -/
theorem put_ext (m : Int) (L : List T) (t : T) : Ext L (put m L t).2.2 := by
  unfold put
  split
  · cases find t L with
    | some i => exact Ext.refl L
    | none => simp only []; split; exact Ext.refl L; exact ⟨[t], rfl⟩
  · exact Ext.refl L

/-- A put that finds room. -/
theorem put_ok {m : Int} {L : List T} {t : T} (g : Good L) (hm : t.may L.length) (hr : (L.length : Int) < m) :
    ∃ i L', put m L t = (i, 0, L') ∧ At L' i t ∧ Ext L L' ∧ Good L' ∧ L'.length ≤ L.length + 1 := by
  cases hf : find t L with
  | some i => exact ⟨i + 1, L, by simp [put, hm, hf], find_at hf, Ext.refl L, g, by omega⟩
  | none =>
    have hp : put m L t = ((L.length : Int) + 1, 0, L ++ [t]) := by simp only [put, hm, if_true, hf]; rw [if_neg (by omega)]
    refine ⟨L.length + 1, L ++ [t], hp, ⟨by omega, by simp, by simp⟩, ⟨[t], rfl⟩, ?_, by simp⟩
    have := Good.put m t g
    rwa [hp] at this

/-- A put of what is there. -/
theorem put_known {m : Int} {L : List T} {i : Int} {t : T} (g : Good L) (h : At L i t) : put m L t = (i, 0, L) := by
  have hm := h.may g
  cases hf : find t L with
  | none => exact absurd (List.mem_of_getElem? h.is) (find_none.1 hf)
  | some j =>
    have := (find_at hf).name g h
    simp only [put, hm, if_true, hf]
    rw [this]

theorem put_bad {m : Int} {L : List T} {t : T} (h : ¬ t.may L.length) : put m L t = (0, 1, L) := by simp [put, h]

/-- A put that finds none. -/
theorem putp_full {m : Int} {L : List T} {t : T} (hm : t.may L.length) (hn : t ∉ L) (hr : m ≤ L.length) : put m L t = (0, 4, L) := by
  simp [put, hm, find_none.2 hn, hr]
theorem putp_new {m : Int} {L : List T} {t : T} (hm : t.may L.length) (hn : t ∉ L) (hr : (L.length : Int) < m) : put m L t = ((L.length : Int) + 1, 0, L ++ [t]) := by
  simp only [put, hm, if_true, find_none.2 hn]; rw [if_neg (by omega)]

theorem at_snoc (L : List T) (t : T) : At (L ++ [t]) ((L.length : Int) + 1) t := ⟨by omega, by simp, by simp⟩

/-- The terms that the layers make. -/
def txtT (s : ByteArray) : T := ⟨1, s, 0, 0, 0, 0⟩
def nonT (n : Int) : T := ⟨2, ⟨#[]⟩, n, 0, 0, 0⟩
def pubT (a : Int) : T := ⟨3, ⟨#[]⟩, 0, a, 0, 0⟩
def shaT (a b : Int) : T := ⟨4, ⟨#[]⟩, 0, a, b, 0⟩
def kpuT (a : Int) : T := ⟨5, ⟨#[]⟩, 0, a, 0, 0⟩
def boxT (a b : Int) : T := ⟨6, ⟨#[]⟩, 0, a, b, 0⟩
def kemT (a b : Int) : T := ⟨7, ⟨#[]⟩, 0, a, b, 0⟩
def hasT (a b : Int) : T := ⟨8, ⟨#[]⟩, 0, a, b, 0⟩
def keyT (a n : Int) : T := ⟨9, ⟨#[]⟩, n, a, 0, 0⟩
def seaT (a n b c : Int) : T := ⟨10, ⟨#[]⟩, n, a, b, c⟩
def paiT (a b : Int) : T := ⟨11, ⟨#[]⟩, 0, a, b, 0⟩

section
variable {len a b c n : Int}
theorem may_txt (s : ByteArray) (h : s.size ≤ 1000) : (txtT s).may len := by simp [txtT, T.may, T.only, many, T.parts, h]
theorem may_non (n : Int) : (nonT n).may len := by simp [nonT, T.may, T.only, many, T.parts]; decide
theorem may_pub : (pubT a).may len ↔ 1 ≤ a ∧ a ≤ len := by
  have : (⟨#[]⟩ : ByteArray).size ≤ 1000 := by decide
  simp [pubT, T.may, T.only, many, T.parts, this]
theorem may_sha : (shaT a b).may len ↔ (1 ≤ a ∧ a ≤ len) ∧ (1 ≤ b ∧ b ≤ len) ∧ a ≤ b := by
  have : (⟨#[]⟩ : ByteArray).size ≤ 1000 := by decide
  simp [shaT, T.may, T.only, many, T.parts, this]; omega
theorem may_kpu : (kpuT a).may len ↔ 1 ≤ a ∧ a ≤ len := by
  have : (⟨#[]⟩ : ByteArray).size ≤ 1000 := by decide
  simp [kpuT, T.may, T.only, many, T.parts, this]
theorem may_box : (boxT a b).may len ↔ (1 ≤ a ∧ a ≤ len) ∧ (1 ≤ b ∧ b ≤ len) := by
  have : (⟨#[]⟩ : ByteArray).size ≤ 1000 := by decide
  simp [boxT, T.may, T.only, many, T.parts, this]
theorem may_kem : (kemT a b).may len ↔ (1 ≤ a ∧ a ≤ len) ∧ (1 ≤ b ∧ b ≤ len) := by
  have : (⟨#[]⟩ : ByteArray).size ≤ 1000 := by decide
  simp [kemT, T.may, T.only, many, T.parts, this]
theorem may_has : (hasT a b).may len ↔ (1 ≤ a ∧ a ≤ len) ∧ (1 ≤ b ∧ b ≤ len) := by
  have : (⟨#[]⟩ : ByteArray).size ≤ 1000 := by decide
  simp [hasT, T.may, T.only, many, T.parts, this]
theorem may_key : (keyT a n).may len ↔ 1 ≤ a ∧ a ≤ len := by
  have : (⟨#[]⟩ : ByteArray).size ≤ 1000 := by decide
  simp [keyT, T.may, T.only, many, T.parts, this]
theorem may_sea : (seaT a n b c).may len ↔ (1 ≤ a ∧ a ≤ len) ∧ (1 ≤ b ∧ b ≤ len) ∧ (1 ≤ c ∧ c ≤ len) := by
  have : (⟨#[]⟩ : ByteArray).size ≤ 1000 := by decide
  simp [seaT, T.may, T.only, many, T.parts, this]
theorem may_pai : (paiT a b).may len ↔ (1 ≤ a ∧ a ≤ len) ∧ (1 ≤ b ∧ b ≤ len) := by
  have : (⟨#[]⟩ : ByteArray).size ≤ 1000 := by decide
  simp [paiT, T.may, T.only, many, T.parts, this]
end

/-- The parts of a term that is there are there ahead of it. -/
theorem At.part {L : List T} {i p : Int} {t : T} (g : Good L) (h : At L i t) (hp : p ∈ t.parts) : 1 ≤ p ∧ p < i := by
  have := (g.may _ _ h.is).2.2.2.2.2 p hp
  have := h.lo
  omega
end Go.Proofs.Ytpcfmafokkffgaa
namespace Go.Proofs.Ytpcfmafokkffgaa
open Go.RowKit

set_option maxHeartbeats 1000000 in
theorem ref_calls (k : Int) (s : ByteArray) (n a b c : Int) (w : World) :
    Calls Try.prog 53 #[.agg #[.int .i64 k, .string s, .int .u64 n, .int .i64 a, .int .i64 b, .int .i64 c]] w fun e w' =>
      e = .returned (T.val ⟨k, s, n, a, b, c⟩) ∧ Below w.heap.size w w' := by
  go_enter Try.func53, Try.ntmps53
  go_wp2
  refine bodyPost_ret (v := T.val ⟨k, s, n, a, b, c⟩) (by simp [results, Try.results53, go_sem, T.val]) rfl ⟨rfl, ?_⟩
  exact ((Below.refl _ _).alloc (Nat.le_refl _) _).alloc (by simp) _





end Go.Proofs.Ytpcfmafokkffgaa
namespace Go.Proofs.Ytpcfmafokkffgaa
open Go.RowKit

theorem put_len (m : Int) (L : List T) (t : T) : (put m L t).2.2.length ≤ L.length + 1 := by
  unfold put
  split
  · cases find t L with
    | some i => simp
    | none => simp only []; split <;> simp
  · simp

set_option maxRecDepth 100000 in
set_option maxHeartbeats 8000000 in
theorem stores_calls {W w : World} {Rs : List Res} (h : Hd W w Rs) (ad : Option Addr) (len cap : Nat) (ts : List T) (hlen : len = ts.length) (hmax : len ≤ maxLen) (hts : TermsIn W ad ts) (most : Int) (h0 : 0 ≤ most) :
    Calls Try.prog 17 #[.slice ad len cap, .int .i64 most] w fun e w' => ∃ b b' L, e = .returned (.tuple #[.pointer (some ⟨b, 0, none⟩), .pointer (some ⟨b', 0, none⟩)]) ∧ Good L ∧ (L.length : Int) ≤ most ∧ Hd W w' (Sto b L 1000 :: RSto b' L 1000 :: Rs) := by
  have Hlen := hid hlen
  have Hts := hid hts
  have Hw := hid h
  clear hts hlen h
  unfold maxLen at hmax
  go_enter Try.func17, Try.ntmps17
  go_wp2_with fail
  refine (new_calls Hw.out (by decide) (by decide)).mono ?_
  rintro e w1 ⟨b, rfl, hd1⟩
  have H := hid hd1
  clear hd1
  go_wp2_with fail
  refine (rnew_calls H.out (by decide) (by decide)).mono ?_
  rintro e w2 ⟨b', rfl, hd2⟩
  have H2 := hid hd2.swap
  clear hd2 H
  go_wp2_with fail
  go_loopw [10] (fun i wr => ∃ j : Nat, j ≤ len ∧ (j : Int) ≤ most ∧ i = .int .i64 j ∧ ∃ L : List T, L.length ≤ j ∧ Hid (Hd W wr (Sto b L 1000 :: RSto b' L 1000 :: Rs))) (fun i _ => len - (intOf i).toNat)
  case atStart => exact ⟨0, Nat.zero_le _, by omega, rfl, [], Nat.le_refl _, H2⟩
  case round =>
    obtain ⟨j, hj, hjm, rfl, L, hL, HL⟩ := hrel
    clear H2
    by_cases hlt : j < len ∧ (j : Int) < most
    · have hd1 : decide (j < len) = true := by simpa using hlt.1
      have hd2 : decide ((j : Int) < most) = true := by simpa using hlt.2
      obtain ⟨t, ht⟩ : ∃ t, ts[j]? = some t := ⟨ts[j]'(by rw [← Hlen.out]; exact hlt.1), List.getElem?_eq_getElem _⟩
      obtain ⟨g, o, rfl, hsz, hcell⟩ := (Hts.out.later HL.out.below) j t ht
      obtain ⟨k, s, n, a, b2, c⟩ := t
      have c0 := hcell 0 _ rfl
      have c1 := hcell 1 _ rfl
      have c2 := hcell 2 _ rfl
      have c3 := hcell 3 _ rfl
      have c4 := hcell 4 _ rfl
      have c5 := hcell 5 _ rfl
      simp only [Nat.add_zero] at c0
      have C0 := hid c0
      have C1 := hid c1
      have C2 := hid c2
      have C3 := hid c3
      have C4 := hid c4
      have C5 := hid c5
      have hj0 : (0 : Int) ≤ (j : Int) := by omega
      have hj1 : (j : Int) < (len : Int) := by omega
      have Ht := hid ht
      clear hcell ht
      go_wp2_with fail
      refine (cut_calls k s n a b2 c _ hsz).mono ?_
      obtain ⟨k1, s1, n1, a1, b1, c1', hcut⟩ : ∃ k1 s1 n1 a1 b1 c1, T.cut ⟨k, s, n, a, b2, c⟩ = ⟨k1, s1, n1, a1, b1, c1⟩ := ⟨_, _, _, _, _, _, rfl⟩
      have Hcut := hid hcut
      rw [hcut]
      simp only [T.val]
      rintro e w3 ⟨rfl, hb3⟩
      have H3 := hid (HL.out.still hb3)
      clear hb3 c0 c1 c2 c3 c4 c5 C0 C1 C2 C3 C4 C5 hcut
      go_wp2_with fail
      refine (put_calls k1 s1 n1 a1 b1 c1' H3.out).mono ?_
      obtain ⟨r1, r2, L2, hput⟩ : ∃ r1 r2 L2, put 1000 L ⟨k1, s1, n1, a1, b1, c1'⟩ = (r1, r2, L2) := ⟨_, _, _, rfl⟩
      have hpl := put_len 1000 L ⟨k1, s1, n1, a1, b1, c1'⟩
      have Hput := hid hput
      rw [hput] at hpl ⊢
      simp only at hpl
      rintro e w4 ⟨rfl, h4⟩
      have H4 := hid h4.swap
      clear h4 hput H3
      obtain ⟨g', o', e', _, hcell⟩ := (Hts.out.later H4.out.below) j _ Ht.out
      simp only [Option.some.injEq, Addr.mk.injEq, and_true] at e'
      obtain ⟨rfl, rfl⟩ := e'
      have c0 := hcell 0 _ rfl
      have c1 := hcell 1 _ rfl
      have c2 := hcell 2 _ rfl
      have c3 := hcell 3 _ rfl
      have c4 := hcell 4 _ rfl
      have c5 := hcell 5 _ rfl
      simp only [Nat.add_zero] at c0
      clear hcell
      go_wp2_with fail
      refine (cut_calls k s n a b2 c _ hsz).mono ?_
      rw [Hcut.out]
      simp only [T.val]
      rintro e w5 ⟨rfl, hb5⟩
      have H5 := hid (H4.out.still hb5)
      clear hb5 c0 c1 c2 c3 c4 c5 H4
      go_wp2_with fail
      refine (ref_calls k1 s1 n1 a1 b1 c1' _).mono ?_
      simp only [T.val]
      rintro e w6 ⟨rfl, hb6⟩
      have H6 := hid (H5.out.still hb6)
      clear hb6 H5
      go_wp2_with fail
      refine (rput_calls k1 s1 n1 a1 b1 c1' H6.out).mono ?_
      rw [Hput.out]
      rintro e w7 ⟨rfl, h7⟩
      have H7 := hid h7.swap
      clear h7 H6
      go_wp2_with fail
      go_roundw
      case rel => exact ⟨j + 1, by omega, by omega, by go_num, L2, by omega, H7⟩
      case measure => simp [intOf]; omega
    · have hex : decide (j < len) = false ∨ (decide (j < len) = true ∧ decide ((j : Int) < most) = false) := by
        by_cases h : j < len
        · right; exact ⟨by simpa using h, by simp; omega⟩
        · left; simpa using h
      have hg : Good L := by
        obtain ⟨lb, db, mb, lc, dc, hs⟩ := HL.out.sto
        exact hs.good
      have Hg := hid hg
      have HLm : Hid ((L.length : Int) ≤ most) := hid (by omega)
      clear hlt hg
      rcases hex with hd1 | ⟨hd1, hd2⟩
      · go_wp2_with fail
        go_ret2
        exact ⟨b, b', L, rfl, Hg.out, HLm.out, HL.out⟩
      · go_wp2_with fail
        go_ret2
        exact ⟨b, b', L, rfl, Hg.out, HLm.out, HL.out⟩
end Go.Proofs.Ytpcfmafokkffgaa
namespace Go.Proofs.Ytpcfmafokkffgaa
open Go.RowKit

/-- x is a name. -/
structure In (L : List T) (x : Int) : Prop where
  lo : 1 ≤ x
  hi : x ≤ L.length
theorem In.ext {L L' : List T} {x : Int} (h : In L x) (e : Ext L L') : In L' x := ⟨h.lo, by have := h.hi; have := e.len; omega⟩
theorem At.inn {L : List T} {x : Int} {t : T} (h : At L x t) : In L x := ⟨h.lo, h.hi⟩
theorem In.term {L : List T} {x : Int} (h : In L x) : ∃ t, At L x t := at_of h.lo h.hi
theorem In.getB {L : List T} {x : Int} (h : In L x) : getB L x = true := by obtain ⟨t, ht⟩ := h.term; exact ht.getT.2

/-- A store of at most N terms. -/
structure Room (W w : World) (b : Nat) (L : List T) (m : Int) (N : Nat) (Rs : List Res) : Prop where
  hd : Hd W w (Sto b L m :: Rs)
  good : Good L
  len : L.length ≤ N

theorem Room.of {W w : World} {b : Nat} {L : List T} {m : Int} {N : Nat} {Rs : List Res} (h : Hd W w (Sto b L m :: Rs)) (hl : L.length ≤ N) : Room W w b L m N Rs := by
  obtain ⟨lb, db, mb, lc, dc, hs⟩ := h.sto
  exact ⟨h, hs.good, hl⟩
theorem Room.still {W w w' : World} {b : Nat} {L : List T} {m : Int} {N : Nat} {Rs : List Res} (h : Room W w b L m N Rs) (hb : Below w.heap.size w w') : Room W w' b L m N Rs := ⟨h.hd.still hb, h.good, h.len⟩

/-- What a call that names a term leaves. -/
def Named (W : World) (b : Nat) (L : List T) (m : Int) (N : Nat) (Rs : List Res) (t : T) (e : Ending) (w' : World) : Prop :=
  ∃ p L', e = .returned (.tuple #[.int .i64 p, .int .i64 0]) ∧ At L' p t ∧ Ext L L' ∧ Room W w' b L' m (N + 1) Rs

theorem named_of {W w : World} {b : Nat} {L : List T} {m : Int} {N : Nat} {Rs : List Res} {t : T} {f : FuncId} {args : Array Value} {r : Int × Int × List T} (h : Room W w b L m N Rs) (hr : r = put m L t) (hm : t.may L.length) (hN : (N : Int) < m)
    (hc : Calls Try.prog f args w fun e w' => e = .returned (.tuple #[.int .i64 r.1, .int .i64 r.2.1]) ∧ Hd W w' (Sto b r.2.2 m :: Rs)) : Calls Try.prog f args w (Named W b L m N Rs t) := by
  subst hr
  obtain ⟨i, L', hp, ha, he, hg, hl⟩ := put_ok (m := m) h.good hm (by have := h.len; omega)
  rw [hp] at hc
  exact hc.mono fun e w' ⟨h1, h2⟩ => ⟨i, L', h1, ha, he, h2, hg, by have := h.len; omega⟩

theorem put_room {W w : World} {b : Nat} {L : List T} {m : Int} {N : Nat} {Rs : List Res} (k : Int) (s : ByteArray) (n a b' c : Int) (h : Room W w b L m N Rs) (hN : (N : Int) < m) (hm : T.may L.length ⟨k, s, n, a, b', c⟩) :
    Calls Try.prog 24 #[.pointer (some ⟨b, 0, none⟩), .agg #[.int .i64 k, .string s, .int .u64 n, .int .i64 a, .int .i64 b', .int .i64 c]] w (Named W b L m N Rs ⟨k, s, n, a, b', c⟩) :=
  named_of h rfl hm hN (put_calls k s n a b' c h.hd)

/-- Get of what is there. -/
theorem get_at {W w : World} {b : Nat} {L : List T} {m : Int} {Rs : List Res} {x : Int} {t : T} (h : Hd W w (Sto b L m :: Rs)) (hx : At L x t) :
    Calls Try.prog 49 #[.pointer (some ⟨b, 0, none⟩), .int .i64 x] w fun e w' => e = .returned (.tuple #[.agg #[.int .i64 t.k, .string t.s, .int .u64 t.n, .int .i64 t.a, .int .i64 t.b, .int .i64 t.c], .bool true]) ∧ Below w.heap.size w w' := by
  obtain ⟨lb, db, mb, lc, dc, hs⟩ := h.sto
  have := get_calls x hs
  rw [hx.getT.1, hx.getT.2] at this
  exact this

theorem len_at {W w : World} {b : Nat} {L : List T} {m : Int} {Rs : List Res} (h : Hd W w (Sto b L m :: Rs)) :
    Calls Try.prog 18 #[.pointer (some ⟨b, 0, none⟩)] w fun e w' => e = .returned (.int .i64 L.length) ∧ w = w' := by
  obtain ⟨lb, db, mb, lc, dc, hs⟩ := h.sto
  exact len_calls' hs

theorem Room.calm {W w : World} {b : Nat} {L : List T} {m : Int} {N : Nat} {Rs : List Res} (h : Room W w b L m N Rs) (x : Later w) : Hd W x.w (Sto b L m :: Rs) := h.hd.still x.below
/-- A call that changes nothing and tells a known name. -/
def Known (W : World) (b : Nat) (L : List T) (m : Int) (N : Nat) (Rs : List Res) (p : Int) (e : Ending) (w' : World) : Prop :=
  e = .returned (.tuple #[.int .i64 p, .int .i64 0]) ∧ Room W w' b L m N Rs

theorem known_of {W w : World} {b : Nat} {L : List T} {m : Int} {N : Nat} {Rs : List Res} {t : T} {p : Int} {f : FuncId} {args : Array Value} {r : Int × Int × List T} (h : Room W w b L m N Rs) (hr : r = put m L t) (hp : At L p t)
    (hc : Calls Try.prog f args w fun e w' => e = .returned (.tuple #[.int .i64 r.1, .int .i64 r.2.1]) ∧ Hd W w' (Sto b r.2.2 m :: Rs)) : Calls Try.prog f args w (Known W b L m N Rs p) := by
  subst hr
  rw [put_known h.good hp] at hc
  exact hc.mono fun e w' ⟨h1, h2⟩ => ⟨h1, h2, h.good, h.len⟩

theorem Room.box {W w : World} {b : Nat} {L : List T} {m : Int} {N : Nat} {Rs : List Res} (h : Room W w b L m N Rs) (o : Obj) : Room W (w.alloc o) b L m N (Blk w.heap.size o :: Rs) := ⟨(h.hd.box o).swap, h.good, h.len⟩

theorem mod_range {d : Int} (n : Int) (h : 1 ≤ d) : 0 ≤ n % d ∧ n % d < d := ⟨Int.emod_nonneg n (by omega), Int.emod_lt_of_pos n (by omega)⟩
theorem beq_same {a b c d : Int} (h : a = b ↔ c = d) : (a == b) = (c == d) := by
  rw [Bool.eq_iff_iff]; simpa using h
theorem at_iff {L : List T} {i j : Int} {t u : T} (g : Good L) (h : At L i t) (k : At L j u) : i = j ↔ t = u :=
  ⟨fun e => by subst e; exact h.same k, fun e => by subst e; exact h.name g k⟩
theorem at_kind {L : List T} {i j : Int} {t u : T} (h : At L i t) (k : At L j u) (hk : t.k ≠ u.k) : (i != j) = true := by
  rw [bne_iff_ne]; intro e; subst e; exact hk (by rw [h.same k])
end Go.Proofs.Ytpcfmafokkffgaa
namespace Go.Proofs.Ytpcfmafokkffgaa
open Go.RowKit

theorem Hd.al {W w : World} {Rs : List Res} {o : Obj} (h : Hd W w Rs) : Hd W (w.alloc o) Rs := h.still ((Below.refl _ _).alloc (Nat.le_refl _) _)
theorem Hd.dr {W w : World} {Rs : List Res} (h : Hd W w Rs) : Hd W w.drew Rs := h.still (Below.refl _ _).drew

/-- A variable of the call's own is kept behind the first thing. -/
theorem Hd.bx {W w : World} {A : Res} {Rs : List Res} {o : Obj} (h : Hd W w (A :: Rs)) : Hd W (w.alloc o) (A :: Blk w.heap.size o :: Rs) := (h.box o).swap
theorem Hd.bxk {W w : World} {A : Res} {Rs : List Res} {o : Obj} (k : Nat) (hk : w.heap.size = k) (h : Hd W w (A :: Rs)) : Hd W (w.alloc o) (A :: Blk k o :: Rs) := by subst hk; exact h.bx
theorem Hd.un2 {W w : World} {A B : Res} {Rs : List Res} (h : Hd W w (A :: B :: Rs)) : Hd W w (A :: Rs) := h.swap.drop

/-- A store into a block of the call's own. -/
theorem Hd.set {W w : World} {Rs : List Res} {k : Nat} {cs : Array Value} {T : TypeId} (j : Nat) (v : Value) (h : Hd W w (Blk k (.cells cs T (0, 0)) :: Rs)) : Hd W (w.setCell ⟨k, j, none⟩ v) (Blk k (.cells (cs.setIfInBounds j v) T (0, 0)) :: Rs) := by
  have hb := h.blk
  obtain ⟨f, hR, hf, hlt, hshut⟩ := h.open
  have hRf : f = fun i => if i = k then some (Obj.cells cs T (0, 0)) else none := hR
  subst hRf
  refine hshut _ _ (fun i => if i = k then some (.cells (cs.setIfInBounds j v) T (0, 0)) else none) rfl (fun i o hi => ?_) (fun i hi => ?_) rfl rfl rfl (by simp) (fun i hi hi2 => ?_)
  · dsimp only at hi
    split at hi
    · rename_i e; subst e
      rw [heap_setCell_same _ _ _ _ _ _ hb]; exact hi
    · cases hi
  · split at hi
    · rename_i e; subst e; exact .inl (by simp)
    · exact absurd rfl hi
  · refine heap_setCell_other _ _ _ _ fun e => ?_
    have : i = k := e
    subst this
    simp at hi2

section
variable {W w : World} {Rs : List Res} {b : Nat} {L : List T} {m : Int}

theorem get_c (x : Int) (h : Hd W w (Sto b L m :: Rs)) :
    Calls Try.prog 49 #[.pointer (some ⟨b, 0, none⟩), .int .i64 x] w fun e w' => e = .returned (.tuple #[T.val (getT L x), .bool (getB L x)]) ∧ Hd W w' (Sto b L m :: Rs) := by
  obtain ⟨lb, db, mb, lc, dc, hs⟩ := h.sto
  exact (get_calls x hs).mono fun e w' ⟨h1, h2⟩ => ⟨h1, h.still h2⟩


/-- A put whose answer has names. -/
theorem put_c (k : Int) (s : ByteArray) (n a b' c : Int) {r1 r2 : Int} {L2 : List T} (hq : Hid (put m L ⟨k, s, n, a, b', c⟩ = (r1, r2, L2))) (h : Hd W w (Sto b L m :: Rs)) :
    Calls Try.prog 24 #[.pointer (some ⟨b, 0, none⟩), .agg #[.int .i64 k, .string s, .int .u64 n, .int .i64 a, .int .i64 b', .int .i64 c]] w fun e w' => e = .returned (.tuple #[.int .i64 r1, .int .i64 r2]) ∧ Hd W w' (Sto b L2 m :: Rs) := by
  have := put_calls k s n a b' c h
  rw [hq.out] at this
  exact this

theorem rput_c (k : Int) (s : ByteArray) (n a b' c : Int) {r1 r2 : Int} {L2 : List T} (hq : Hid (put m L ⟨k, s, n, a, b', c⟩ = (r1, r2, L2))) (h : Hd W w (RSto b L m :: Rs)) :
    Calls Try.prog 52 #[.pointer (some ⟨b, 0, none⟩), .agg #[.int .i64 k, .string s, .int .u64 n, .int .i64 a, .int .i64 b', .int .i64 c]] w fun e w' => e = .returned (.tuple #[.int .i64 r1, .int .i64 r2]) ∧ Hd W w' (RSto b L2 m :: Rs) := by
  have := rput_calls k s n a b' c h
  rw [hq.out] at this
  exact this
end
end Go.Proofs.Ytpcfmafokkffgaa
namespace Go.Proofs.Ytpcfmafokkffgaa

/-- What is wrapped. -/
def wrap4 (m : Int) (L : List T) (p d : Int) : Int × Int × Int × List T :=
  if (getT L p).k = 5 ∧ getB L d = true then
    if (put m L (boxT (getT L p).a d)).2.1 = 0 then
      if (put m (put m L (boxT (getT L p).a d)).2.2 (kemT (getT L p).a d)).2.1 = 0 then
        ((put m L (boxT (getT L p).a d)).1, (put m (put m L (boxT (getT L p).a d)).2.2 (kemT (getT L p).a d)).1, 0, (put m (put m L (boxT (getT L p).a d)).2.2 (kemT (getT L p).a d)).2.2)
      else (0, 0, (put m (put m L (boxT (getT L p).a d)).2.2 (kemT (getT L p).a d)).2.1, (put m (put m L (boxT (getT L p).a d)).2.2 (kemT (getT L p).a d)).2.2)
    else (0, 0, (put m L (boxT (getT L p).a d)).2.1, (put m L (boxT (getT L p).a d)).2.2)
  else (0, 0, 1, L)

/-- What was wrapped, opened. -/
def open4 (m : Int) (L : List T) (s x : Int) : Int × Int × List T :=
  if getB L s = true ∧ getB L x = true then
    if (getT L x).k = 6 ∧ (getT L x).a = s then put m L (kemT s (getT L x).b) else (0, 10, L)
  else (0, 1, L)

/-- Both keys that come of a key and what is mixed in. -/
def mix6 (m : Int) (L : List T) (k i : Int) : Int × Int × Int × List T :=
  if (put m L (hasT k i)).2.1 = 0 then
    if (put m (put m L (hasT k i)).2.2 (keyT (put m L (hasT k i)).1 1)).2.1 = 0 then
      if (put m (put m (put m L (hasT k i)).2.2 (keyT (put m L (hasT k i)).1 1)).2.2 (keyT (put m L (hasT k i)).1 2)).2.1 = 0 then
        ((put m (put m L (hasT k i)).2.2 (keyT (put m L (hasT k i)).1 1)).1, (put m (put m (put m L (hasT k i)).2.2 (keyT (put m L (hasT k i)).1 1)).2.2 (keyT (put m L (hasT k i)).1 2)).1, 0,
          (put m (put m (put m L (hasT k i)).2.2 (keyT (put m L (hasT k i)).1 1)).2.2 (keyT (put m L (hasT k i)).1 2)).2.2)
      else (0, 0, (put m (put m (put m L (hasT k i)).2.2 (keyT (put m L (hasT k i)).1 1)).2.2 (keyT (put m L (hasT k i)).1 2)).2.1, (put m (put m (put m L (hasT k i)).2.2 (keyT (put m L (hasT k i)).1 1)).2.2 (keyT (put m L (hasT k i)).1 2)).2.2)
    else (0, 0, (put m (put m L (hasT k i)).2.2 (keyT (put m L (hasT k i)).1 1)).2.1, (put m (put m L (hasT k i)).2.2 (keyT (put m L (hasT k i)).1 1)).2.2)
  else (0, 0, (put m L (hasT k i)).2.1, (put m L (hasT k i)).2.2)

/-- Derived so often. -/
def chainN (m n : Int) : Nat → List T → Int → Int × Int × List T
  | 0, L, k => (k, 0, L)
  | r + 1, L, k => if (put m L (keyT k n)).2.1 = 0 then chainN m n r (put m L (keyT k n)).2.2 (put m L (keyT k n)).1 else (0, (put m L (keyT k n)).2.1, (put m L (keyT k n)).2.2)
def chain6 (m : Int) (L : List T) (k n times : Int) : Int × Int × List T :=
  if getB L k = true ∧ 0 ≤ times ∧ times ≤ 1000 then chainN m n times.toNat L k else (0, 1, L)

/-- What was sealed. -/
def open5 (L : List T) (k n b s : Int) : Int × Int :=
  if getB L k = true ∧ getB L b = true ∧ getB L s = true then
    if getT L s = seaT k n b (getT L s).c then ((getT L s).c, 0) else (0, 9)
  else (0, 1)
def text5 (m : Int) (L : List T) (k n b : Int) (s : ByteArray) : Int × Int × List T :=
  if getB L k = true ∧ getB L b = true then
    if (put m L (txtT s)).2.1 = 0 then put m (put m L (txtT s)).2.2 (seaT k n b (put m L (txtT s)).1) else (0, (put m L (txtT s)).2.1, (put m L (txtT s)).2.2)
  else (0, 1, L)
def read5 (L : List T) (k n b s : Int) : ByteArray × Int :=
  if (open5 L k n b s).2 = 0 then
    if (getT L (open5 L k n b s).1).k = 1 then ((getT L (open5 L k n b s).1).s, 0) else (⟨#[]⟩, 9)
  else (⟨#[]⟩, (open5 L k n b s).2)

/-- What a store of good terms holds of a seal. -/
theorem sea_iff {L : List T} {k n b s : Int} (g : Good L) : getT L s = seaT k n b (getT L s).c ↔ (getT L s).k = 10 ∧ (getT L s).a = k ∧ (getT L s).n = n ∧ (getT L s).b = b := by
  constructor
  · intro h
    rw [h]
    exact ⟨rfl, rfl, rfl, rfl⟩
  · rintro ⟨h1, h2, h3, h4⟩
    by_cases hs : 1 ≤ s ∧ s ≤ L.length
    · have ha := at_getT hs.1 hs.2
      have hm := (ha.may g).2.2.1
      generalize getT L s = t at *
      obtain ⟨tk, ts, tn, ta, tb, tc⟩ := t
      simp only at h1 h2 h3 h4
      subst h1 h2 h3 h4
      have := congrArg T.s hm
      simp only [T.only] at this
      rw [if_neg (by decide)] at this
      rw [this]; rfl
    · have hz : getT L s = zeroT := by
        unfold getT get
        split
        · rw [List.getElem?_eq_none (by omega)]; rfl
        · rfl
      rw [hz] at h1
      exact absurd h1 (by decide)
end Go.Proofs.Ytpcfmafokkffgaa
namespace Go.Proofs.Ytpcfmafokkffgaa
open Go.RowKit


set_option maxRecDepth 100000 in
set_option maxHeartbeats 1000000 in
theorem derive_calls {W w : World} {Rs : List Res} {b : Nat} {L : List T} {m : Int} (k n : Int) (h : Hd W w (Sto b L m :: Rs)) :
    Calls Try.prog 56 #[.pointer (some ⟨b, 0, none⟩), .int .i64 k, .int .u64 n] w fun e w' => e = .returned (.tuple #[.int .i64 (put m L (keyT k n)).1, .int .i64 (put m L (keyT k n)).2.1]) ∧ Hd W w' (Sto b (put m L (keyT k n)).2.2 m :: Rs) := by
  obtain ⟨r1, r2, L2, hq⟩ : ∃ r1 r2 L2, put m L (keyT k n) = (r1, r2, L2) := ⟨_, _, _, rfl⟩
  rw [hq]
  have Hq := hid hq
  have H := hid h
  clear hq h
  go_enter Try.func56, Try.ntmps56
  go_wp2_with fail
  refine (put_c 9 ⟨#[]⟩ n k 0 0 Hq (by first | exact H.out | exact H.out.al | exact H.out.al.al | exact H.out.al.al.al | exact H.out.al.al.al.al)).mono ?_
  rintro e w1 ⟨rfl, h1⟩
  replace H := hid h1
  clear h1
  go_wp2_with fail
  go_ret2
  exact ⟨rfl, H.out⟩


theorem derive_c {W w : World} {Rs : List Res} {b : Nat} {L : List T} {m : Int} (k n : Int) {r1 r2 : Int} {L2 : List T} (hq : Hid (put m L (keyT k n) = (r1, r2, L2))) (h : Hd W w (Sto b L m :: Rs)) :
    Calls Try.prog 56 #[.pointer (some ⟨b, 0, none⟩), .int .i64 k, .int .u64 n] w fun e w' => e = .returned (.tuple #[.int .i64 r1, .int .i64 r2]) ∧ Hd W w' (Sto b L2 m :: Rs) := by
  have := derive_calls k n h
  rw [hq.out] at this
  exact this

end Go.Proofs.Ytpcfmafokkffgaa
namespace Go.Proofs.Ytpcfmafokkffgaa
open Go.RowKit


set_option maxRecDepth 100000 in
set_option maxHeartbeats 1000000 in
theorem rderive_calls {W w : World} {Rs : List Res} {b : Nat} {L : List T} {m : Int} (k n : Int) (h : Hd W w (RSto b L m :: Rs)) :
    Calls Try.prog 59 #[.pointer (some ⟨b, 0, none⟩), .int .i64 k, .int .u64 n] w fun e w' => e = .returned (.tuple #[.int .i64 (put m L (keyT k n)).1, .int .i64 (put m L (keyT k n)).2.1]) ∧ Hd W w' (RSto b (put m L (keyT k n)).2.2 m :: Rs) := by
  obtain ⟨r1, r2, L2, hq⟩ : ∃ r1 r2 L2, put m L (keyT k n) = (r1, r2, L2) := ⟨_, _, _, rfl⟩
  rw [hq]
  have Hq := hid hq
  have H := hid h
  clear hq h
  go_enter Try.func59, Try.ntmps59
  go_wp2_with fail
  refine (rput_c 9 ⟨#[]⟩ n k 0 0 Hq (by first | exact H.out | exact H.out.al | exact H.out.al.al | exact H.out.al.al.al | exact H.out.al.al.al.al)).mono ?_
  rintro e w1 ⟨rfl, h1⟩
  replace H := hid h1
  clear h1
  go_wp2_with fail
  go_ret2
  exact ⟨rfl, H.out⟩


theorem rderive_c {W w : World} {Rs : List Res} {b : Nat} {L : List T} {m : Int} (k n : Int) {r1 r2 : Int} {L2 : List T} (hq : Hid (put m L (keyT k n) = (r1, r2, L2))) (h : Hd W w (RSto b L m :: Rs)) :
    Calls Try.prog 59 #[.pointer (some ⟨b, 0, none⟩), .int .i64 k, .int .u64 n] w fun e w' => e = .returned (.tuple #[.int .i64 r1, .int .i64 r2]) ∧ Hd W w' (RSto b L2 m :: Rs) := by
  have := rderive_calls k n h
  rw [hq.out] at this
  exact this


end Go.Proofs.Ytpcfmafokkffgaa
namespace Go.Proofs.Ytpcfmafokkffgaa
open Go.RowKit

/-- Things in another order. -/
theorem Hd.perm {W w : World} {Rs Ss : List Res} (p : Rs.Perm Ss) : Hd W w Rs → Hd W w Ss := by
  have key : ∀ {Rs Ss : List Res}, Rs.Perm Ss → ∀ u, Lies w u Rs → Lies w u Ss := by
    intro Rs Ss p
    induction p with
    | nil => exact fun _ h => h
    | cons x _ ih => exact fun u h => Lies.cons_mono (fun v => ih v) h
    | swap x y l => exact fun u h => h.swap
    | trans _ _ ih1 ih2 => exact fun u h => ih2 u (ih1 u h)
  exact fun h => ⟨h.below, key p _ h.lies⟩

/-- What a call holds, with what its callee was given. -/
theorem Hd.join {W w w' : World} {Rs Ss : List Res} (h : Hd W w Rs) (k : Hd w w' Ss) : Hd W w' (Ss ++ Rs) := by
  refine ⟨h.below.trans (k.below.mono h.below.size), ?_⟩
  have key : ∀ (Ss : List Res) (u v : Nat → Prop), (∀ i, i < w.heap.size → v i) → (∀ i, u i → v i) → (∀ i, u i → i < W.heap.size ∨ w.heap.size ≤ i) → Lies w' v Ss → Lies w' u (Ss ++ Rs) := by
    intro Ss
    induction Ss with
    | nil =>
      intro u v _ _ h3 _
      exact (h.lies.grow h3).keep fun i _ hi => k.below.block i hi
    | cons S Ss ih =>
      intro u v h1 h2 h3 hl
      obtain ⟨f, hS, hf, hd, hr⟩ := hl
      refine ⟨f, hS, hf, fun i hi hu => hd i hi (h2 i hu), ih _ _ (fun i hi => .inl (h1 i hi)) (fun i hi => hi.imp (h2 i) id) (fun i hi => ?_) hr⟩
      rcases hi with hi | hi
      · exact h3 i hi
      · refine .inr (Nat.le_of_not_lt fun hlt => hd i hi (h1 i hlt))
  refine key Ss _ _ (fun i hi => hi) (fun i hi => Nat.lt_of_lt_of_le hi h.below.size) (fun i hi => .inl hi) k.lies

section
variable (ops : Array Oper) (need uses : Nat → List Nat)

def dstOf (i : Nat) : Option Nat := (ops[i]?).bind (·.dst)
/-- What the rule asks of the region's text. -/
def checkOps : Bool :=
  (List.range ops.size).all fun i =>
    (match ops[i]? with
      | some o => decide (o.guard = none) && (need i).all (fun d => o.after.any fun e => e.on == d && Region.binds .any e) && o.after.all (fun e => !Region.binds .any e || decide (e.on < i))
      | none => false) &&
    (need i).all (fun d => decide (d < i)) &&
    (uses i).all (fun k => k == i || (need i).any fun d => (uses d).contains k) &&
    (List.range ops.size).all fun j => i == j || dstOf ops i != dstOf ops j || dstOf ops i == none

variable {ops need uses}

theorem check_at (h : checkOps ops need uses = true) {i : Nat} {o : Oper} (ho : ops[i]? = some o) : o.guard = none ∧ (∀ d ∈ need i, ∃ e ∈ o.after, e.on = d ∧ Region.binds .any e = true) ∧ (∀ e ∈ o.after, Region.binds .any e = true → e.on < i) ∧ (∀ d ∈ need i, d < i) ∧
    (∀ k ∈ uses i, k = i ∨ ∃ d ∈ need i, k ∈ uses d) ∧ (∀ j < ops.size, ∀ t, dstOf ops i = some t → dstOf ops j = some t → i = j) := by
  have hlt : i < ops.size := (Array.getElem?_eq_some_iff.1 ho).1
  unfold checkOps at h
  rw [List.all_eq_true] at h
  have hi := h i (List.mem_range.2 hlt)
  rw [ho] at hi
  simp only [Bool.and_eq_true, decide_eq_true_eq, List.all_eq_true, Array.all_eq_true', Array.any_eq_true', beq_iff_eq, Bool.or_eq_true, Bool.not_eq_true', bne_iff_ne, List.any_eq_true, List.contains_iff_mem, List.mem_range] at hi
  obtain ⟨⟨⟨⟨⟨h1, h2⟩, h3⟩, h4⟩, h5⟩, h6⟩ := hi
  refine ⟨h1, fun d hd => ?_, fun e he hb => ?_, h4, fun k hk => ?_, fun j hj t h7 h8 => ?_⟩
  · obtain ⟨e, he, h7, h8⟩ := h2 d hd
    exact ⟨e, he, h7, h8⟩
  · rcases h3 e he with h7 | h7
    · rw [hb] at h7; cases h7
    · exact h7
  · rcases h5 k hk with h7 | ⟨d, hd, h7⟩
    · exact .inl h7
    · exact .inr ⟨d, hd, by simpa using h7⟩
  · rcases h6 j hj with (h9 | h9) | h9
    · exact h9
    · exact absurd (h7.trans h8.symm) h9
    · rw [h9] at h7; cases h7

theorem ready_need (h : checkOps ops need uses = true) {listed : Array Bool} {i : Nat} (hi : i ∈ Region.ready .any ops listed) {d : Nat} (hd : d ∈ need i) : listed.getD d false = true := by
  obtain ⟨_, o, ho, hall⟩ := mem_ready.1 hi
  obtain ⟨e, he, rfl, hb⟩ := (check_at h ho).2.1 d hd
  exact hall e he hb

theorem all_here (h : checkOps ops need uses = true) {listed : Array Bool} (hs : listed.size = ops.size) (hr : Region.ready .any ops listed = []) : ∀ i, i < ops.size → listed.getD i false = true := by
  intro i
  induction i using Nat.strongRecOn with
  | _ i ih =>
    intro hi
    refine Classical.byContradiction fun hne => ?_
    have h1 : listed.getD i true = false := by
      have hlt : i < listed.size := by omega
      simp only [Array.getD_eq_getD_getElem?, Array.getElem?_eq_getElem hlt, Option.getD_some] at hne ⊢
      simpa using hne
    have hmem : i ∈ Region.ready .any ops listed := mem_ready.2 ⟨h1, ops[i], Array.getElem?_eq_getElem hi, fun e he hb => by
      have := (check_at h (Array.getElem?_eq_getElem hi)).2.2.1 e he hb
      exact ih e.on this (by omega)⟩
    rw [hr] at hmem
    cases hmem

theorem here_set {listed : Array Bool} {i j : Nat} (h : (listed.setIfInBounds i true).getD j false = true) : j = i ∨ listed.getD j false = true := by
  by_cases e : i = j
  · exact .inl e.symm
  · right
    simpa [Array.getElem?_setIfInBounds_ne e] using h
theorem here_mono {listed : Array Bool} {i j : Nat} (h : listed.getD j false = true) : (listed.setIfInBounds i true).getD j false = true := by
  by_cases e : i = j
  · subst e
    have hlt : i < listed.size := by
      rcases Nat.lt_or_ge i listed.size with h' | h'
      · exact h'
      · simp [Array.getElem?_eq_none h'] at h
    simp [hlt]
  · simpa [Array.getElem?_setIfInBounds_ne e] using h

theorem none_here (n i : Nat) : (Array.replicate n false).getD i false = false := by
  simp only [Array.getD_eq_getD_getElem?, Array.getElem?_replicate]
  split <;> rfl

/-- Another block for i. -/
def upd (g : Nat → Nat) (i x : Nat) : Nat → Nat := fun j => if j = i then x else g j

theorem put_same {a : Act} {d : Nat} {v : Value} (h : d < a.tmps.size) : (a.put (some d) v).eval (.tmp d) = v := by
  simp [Act.put, Act.eval, h]
theorem put_ne {a : Act} {d : Option Nat} {t : Nat} {v : Value} (h : d ≠ some t) : (a.put d v).eval (.tmp t) = a.eval (.tmp t) := by
  cases d with
  | none => rfl
  | some d =>
    have hne : d ≠ t := fun e => h (by rw [e])
    simp [Act.put, Act.eval, Array.getElem?_setIfInBounds_ne hne]
theorem put_size (a : Act) (d : Option Nat) (v : Value) : (a.put d v).tmps.size = a.tmps.size := by
  cases d <;> simp [Act.put]
theorem put_defers (a : Act) (d : Option Nat) (v : Value) : (a.put d v).defers = a.defers := by
  cases d <;> rfl

/-- What holds on the way. -/
structure Way (ops : Array Oper) (uses : Nat → List Nat) (val : (Nat → Nat) → Nat → Value) (R : (Nat → Nat) → Nat → List Res) (W w0 : World) (Rs : List Res) (a0 : Act) (listed : Array Bool) (a : Act) (w : World) (g : Nat → Nat) : Prop where
  lsize : listed.size = ops.size
  size : a.tmps.size = a0.tmps.size
  defers : a.defers = a0.defers
  rest : ∀ t : Nat, (∀ i, dstOf ops i ≠ some t) → a.eval (.tmp t) = a0.eval (.tmp t)
  has : ∀ i d, listed.getD i false = true → dstOf ops i = some d → a.eval (.tmp d) = val g i
  closed : ∀ i, listed.getD i false = true → ∀ k ∈ uses i, listed.getD k false = true
  below : Below w0.heap.size w0 w
  hd : Hd W w (((List.range ops.size).filter fun i => listed.getD i false).flatMap (R g) ++ Rs)

theorem perm_insert {R R' : Nat → List Res} (p p' : Nat → Bool) (i : Nat) (hp : p i = false) (hp' : ∀ j, p' j = (p j || j == i)) (hR : ∀ j, p j = true → R' j = R j) : ∀ l : List Nat, l.Nodup → i ∈ l → (R' i ++ (l.filter p).flatMap R).Perm ((l.filter p').flatMap R')
  | [], _, h => by simp at h
  | x :: l, hn, h => by
    have hx := (List.nodup_cons.1 hn).1
    have hl := (List.nodup_cons.1 hn).2
    by_cases e : x = i
    · subst e
      have h1 : p' x = true := by rw [hp']; simp
      rw [List.filter_cons_of_neg (by simp [hp]), List.filter_cons_of_pos h1, List.flatMap_cons]
      refine List.Perm.append_left _ ?_
      have : ∀ l : List Nat, x ∉ l → (l.filter p).flatMap R = (l.filter p').flatMap R' := by
        intro l
        induction l with
        | nil => intro _; rfl
        | cons y l ih =>
          intro hy
          have hyx : y ≠ x := fun e => hy (by simp [e])
          have h2 : p' y = p y := by rw [hp']; simp [hyx]
          cases hpy : p y with
          | true => rw [List.filter_cons_of_pos hpy, List.filter_cons_of_pos (by rw [h2, hpy]), List.flatMap_cons, List.flatMap_cons, hR y hpy, ih (fun h => hy (by simp [h]))]
          | false => rw [List.filter_cons_of_neg (by simp [hpy]), List.filter_cons_of_neg (by simp [h2, hpy]), ih (fun h => hy (by simp [h]))]
      rw [this l hx]
    · have hi : i ∈ l := by
        rcases List.mem_cons.1 h with h | h
        · exact absurd h.symm e
        · exact h
      have ih := perm_insert p p' i hp hp' hR l hl hi
      have h2 : p' x = p x := by rw [hp']; simp [e]
      cases hpx : p x with
      | true =>
        rw [List.filter_cons_of_pos hpx, List.filter_cons_of_pos (by rw [h2, hpx]), List.flatMap_cons, List.flatMap_cons, hR x hpx]
        rw [← List.append_assoc]
        exact ((List.perm_append_comm.append_right _).trans (by rw [List.append_assoc])).trans (List.Perm.append_left _ ih)
      | false => rw [List.filter_cons_of_neg (by simp [hpx]), List.filter_cons_of_neg (by simp [h2, hpx])]; exact ih

/-- THE RULE. -/
theorem wp_region_made {P : Program} {Q : Exit → Act → World → Prop} {id : Nat} {a0 : Act} {w0 W : World} {Rs : List Res} (need uses : Nat → List Nat) (val : (Nat → Nat) → Nat → Value) (R : (Nat → Nat) → Nat → List Res)
    (hm : P.follows .mixedOrders = true) (hc : checkOps ops need uses = true) (hsz : ∀ i d, dstOf ops i = some d → d < a0.tmps.size)
    (hval : ∀ i g g', (∀ k ∈ uses i, g k = g' k) → val g i = val g' i ∧ R g i = R g' i) (h0 : Hd W w0 Rs)
    (step : ∀ i o, ops[i]? = some o → ∀ (a : Act) (w : World) (g : Nat → Nat), (∀ d ∈ need i, ∀ s, dstOf ops d = some s → a.eval (.tmp s) = val g d) → (∀ t : Nat, (∀ i, dstOf ops i ≠ some t) → a.eval (.tmp t) = a0.eval (.tmp t)) → Below w0.heap.size w0 w →
      ∀ K : Act → World → Prop, (∀ x v w', v = val (upd g i x) i ∨ o.dst = none → Below w.heap.size w w' → (∀ Ss, Hd W w Ss → Hd W w' (R (upd g i x) i ++ Ss)) → K (a.put o.dst v) w') → o.wp P a w K Q)
    (done : ∀ (a : Act) (w : World) (g : Nat → Nat), a.tmps.size = a0.tmps.size → a.defers = a0.defers → (∀ t : Nat, (∀ i, dstOf ops i ≠ some t) → a.eval (.tmp t) = a0.eval (.tmp t)) → (∀ i d, dstOf ops i = some d → a.eval (.tmp d) = val g i) → Below w0.heap.size w0 w →
      Hd W w ((List.range ops.size).flatMap (R g) ++ Rs) → Q .normal a w) : (Code.region id ops true).wp P Q a0 w0 := by
  refine wp_region_inv (fun a0 listed a w => a0 = a0 ∧ ∃ g, Way ops uses val R W w0 Rs a0 listed a w g) hm ?_ ?_ ?_
  · refine ⟨rfl, fun _ => 0, by simp, rfl, rfl, fun _ _ => rfl, fun i d h => ?_, fun i h => ?_, (Below.refl _ _).drew, ?_⟩
    · rw [none_here] at h; cases h
    · rw [none_here] at h; cases h
    · have : ((List.range ops.size).filter fun i => (Array.replicate ops.size false).getD i false) = [] := by
        rw [List.filter_eq_nil_iff]
        intro i _
        rw [none_here]; exact Bool.false_ne_true
      rw [this]
      exact h0.still (Below.refl _ _).drew
  · rintro listed a w ⟨_, g, hw⟩ i hi
    obtain ⟨hl, o, ho, hall⟩ := mem_ready.1 hi
    have hck := check_at hc ho
    have hlt : i < ops.size := (Array.getElem?_eq_some_iff.1 ho).1
    have hdi : dstOf ops i = o.dst := by simp [dstOf, ho]
    have hli : listed.getD i false = false := by
      have : i < listed.size := by rw [hw.lsize]; exact hlt
      simp only [Array.getD_eq_getD_getElem?, Array.getElem?_eq_getElem this, Option.getD_some] at hl ⊢
      exact hl
    refine wpOp_plain ho hck.1 ?_
    refine step i o ho a w g (fun d hd s hs => hw.has d s (ready_need hc hi hd) hs) hw.rest hw.below _ ?_
    intro x v w' hv hb hR
    have huse : ∀ j, listed.getD j false = true → ∀ k ∈ uses j, g k = upd g i x k := fun j hj k hk => by
      have := hw.closed j hj k hk
      have hne : k ≠ i := fun e => by rw [e, hli] at this; cases this
      simp [upd, hne]
    refine ⟨rfl, upd g i x, by simp [hw.lsize], (put_size _ _ _).trans hw.size, (put_defers _ _ _).trans hw.defers, fun t ht => ?_, fun j d hj hd => ?_, fun j hj k hk => ?_, hw.below.trans (hb.mono hw.below.size), ?_⟩
    · rw [put_ne (by rw [← hdi]; exact ht i)]
      exact hw.rest t ht
    · by_cases e : j = i
      · subst e
        rw [hdi] at hd
        rw [hd, put_same (by rw [hw.size]; exact hsz j d (hdi.trans hd))]
        rcases hv with hv | hv
        · exact hv
        · rw [hv] at hd; cases hd
      · have hlj := (here_set hj).resolve_left e
        have hjs : j < ops.size := by
          rcases Nat.lt_or_ge j ops.size with h | h
          · exact h
          · rw [← hw.lsize] at h; simp [Array.getElem?_eq_none h] at hlj
        rw [put_ne (fun e2 => e (hck.2.2.2.2.2 j hjs d (hdi.trans e2) hd).symm), hw.has j d hlj hd]
        exact (hval j _ _ (huse j hlj)).1
    · rcases here_set hj with rfl | hlj
      · rcases hck.2.2.2.2.1 k hk with rfl | ⟨d, hd, hkd⟩
        · exact hj
        · exact here_mono (hw.closed d (ready_need hc hi hd) k hkd)
      · exact here_mono (hw.closed j hlj k hk)
    · have h1 := hR _ hw.hd
      rw [← List.append_assoc] at h1
      refine Hd.perm (List.Perm.append_right _ ?_) h1
      refine perm_insert (R := R g) (R' := R (upd g i x)) (fun j => listed.getD j false) (fun j => (listed.setIfInBounds i true).getD j false) i hli (fun j => ?_) (fun j hj => (hval j _ _ (huse j hj)).2.symm) _ List.nodup_range (List.mem_range.2 hlt)
      by_cases e : j = i
      · subst e
        have : j < listed.size := by rw [hw.lsize]; exact hlt
        simp [this]
      · simp only [Array.getD_eq_getD_getElem?, Array.getElem?_setIfInBounds_ne (Ne.symm e)]
        simp [e]
  · rintro listed a w ⟨_, g, hw⟩ hr
    have hall := all_here hc hw.lsize hr
    refine done a w g hw.size hw.defers hw.rest (fun i d hd => hw.has i d (hall i ?_) hd) hw.below ?_
    · rcases Nat.lt_or_ge i ops.size with h | h
      · exact h
      · simp [dstOf, Array.getElem?_eq_none h] at hd
    · have := hw.hd
      rw [List.filter_eq_self.2 (fun i hi => hall i (List.mem_range.1 hi))] at this
      exact this

theorem core_at {core : List (Option Nat × Op)} (hc : ops.toList.map (fun o => (o.dst, o.op)) = core) {i : Nat} {o : Oper} (ho : ops[i]? = some o) : core[i]? = some (o.dst, o.op) := by
  rw [← hc, List.getElem?_map, Array.getElem?_toList, ho]; rfl
theorem dst_core {core : List (Option Nat × Op)} (hc : ops.toList.map (fun o => (o.dst, o.op)) = core) (i : Nat) : dstOf ops i = (core[i]?).bind (·.1) := by
  rw [← hc, List.getElem?_map, Array.getElem?_toList, dstOf]
  cases ops[i]? <;> rfl
end

/-- A frame of which some slots are written anew. -/
def patchG (S : Nat → Bool) (f : Nat → Value) : Nat → List Value → List Value
  | _, [] => []
  | i, v :: l => (bif S i then f i else v) :: patchG S f (i + 1) l

theorem patchG_get (S : Nat → Bool) (f : Nat → Value) : ∀ (l : List Value) (i j : Nat), (patchG S f i l)[j]? = (l[j]?).map fun v => bif S (i + j) then f (i + j) else v
  | [], i, j => by simp [patchG]
  | v :: l, i, 0 => by simp [patchG]
  | v :: l, i, j + 1 => by
    simp only [patchG, List.getElem?_cons_succ, patchG_get S f l (i + 1) j]
    rw [show i + 1 + j = i + (j + 1) from by omega]

theorem act_litG {a a0 : Act} (S : Nat → Bool) (hs : a.tmps.size = a0.tmps.size) (hd : a.defers = a0.defers) (hr : ∀ t : Nat, S t = false → a.eval (.tmp t) = a0.eval (.tmp t)) :
    a = { tmps := (patchG S (fun i => a.eval (.tmp i)) 0 a0.tmps.toList).toArray, defers := a0.defers } := by
  obtain ⟨t, d⟩ := a
  obtain ⟨t0, d0⟩ := a0
  dsimp only at hs hd
  subst hd
  congr 1
  apply Array.ext_getElem?
  intro i
  simp only [List.getElem?_toArray, patchG_get, Nat.zero_add, Array.getElem?_toList]
  by_cases h : i < t.size
  · have h3 : i < t0.size := by omega
    simp only [Array.getElem?_eq_getElem h, Array.getElem?_eq_getElem h3, Option.map_some, Option.some.injEq]
    cases hS : S i with
    | true => simp [Act.eval, h]
    | false =>
      have := hr i hS
      simpa [Act.eval, h, h3] using this
  · have h3 : ¬ i < t0.size := by omega
    simp [h, h3]
end Go.Proofs.Ytpcfmafokkffgaa
namespace Go.Proofs.Ytpcfmafokkffgaa
open Go.RowKit

theorem Hd.nthk {W w : World} {k : Nat} {o : Obj} : ∀ (i : Nat) {Rs : List Res}, Hd W w Rs → Rs[i]? = some (Blk k o) → w.heap[k]? = some o
  | 0, A :: Rs, h, e => by
    simp only [List.getElem?_cons_zero, Option.some.injEq] at e
    subst e
    exact h.blk
  | i + 1, A :: Rs, h, e => Hd.nthk i h.drop (by simpa using e)
  | _, [], _, e => by simp at e
theorem perm_front {R : Res} : ∀ (l : List Res) (i : Nat), l[i]? = some R → l.Perm (R :: l.eraseIdx i)
  | [], i, h => by simp at h
  | x :: l, 0, h => by
    simp only [List.getElem?_cons_zero, Option.some.injEq] at h
    subst h
    exact List.Perm.refl _
  | x :: l, i + 1, h => ((perm_front l i (by simpa using h)).cons x).trans (List.Perm.swap _ _ _)
theorem Hd.front {W w : World} {Rs : List Res} {R : Res} (i : Nat) (h : Hd W w Rs) (e : Rs[i]? = some R) : Hd W w (R :: Rs.eraseIdx i) := Hd.perm (perm_front Rs i e) h
theorem Hd.back {W w : World} {Rs : List Res} {R : Res} (i : Nat) (h : Hd W w (R :: Rs)) {Ss : List Res} (e : R :: Ss.eraseIdx i = R :: Rs) (hi : Ss[i]? = some R := by rfl) : Hd W w Ss := by
  rw [← e] at h
  exact Hd.perm (perm_front Ss i hi).symm h
theorem Hd.dropEnd {W w : World} {Rs Ss : List Res} (h : Hd W w (Rs ++ Ss)) : Hd W w Rs := by
  have key : ∀ (Rs : List Res) (u : Nat → Prop), Lies w u (Rs ++ Ss) → Lies w u Rs := by
    intro Rs
    induction Rs with
    | nil => exact fun _ _ => trivial
    | cons x Rs ih => exact fun u h => Lies.cons_mono (fun v => ih v) h
  exact ⟨h.below, key Rs _ h.lies⟩
theorem blks_ne {W w : World} {Rs : List Res} {a b : Nat} {o p : Obj} (h : Hd W w (Blk a o :: Blk b p :: Rs)) : ¬ a = b := by
  intro e
  subst e
  obtain ⟨_, f, hf, _, _, g, hg, _, hd, _⟩ := h
  have hf' : f = fun j => if j = a then some o else none := hf
  have hg' : g = fun j => if j = a then some p else none := hg
  subst hf' hg'
  exact hd a (by simp) (.inr (by simp))
theorem Hd.boxk {W w : World} {Rs : List Res} {o : Obj} (k : Nat) (hk : w.heap.size = k) (h : Hd W w Rs) : Hd W (w.alloc o) (Blk k o :: Rs) := by subst hk; exact h.box o
theorem Hd.imp {W w : World} {A B : Res} {Rs : List Res} (h : ∀ f, A f → B f) (k : Hd W w (A :: Rs)) : Hd W w (B :: Rs) := by
  obtain ⟨hb, f, hA, hr⟩ := k
  exact ⟨hb, f, h f hA, hr⟩
theorem evc (a : Act) (c : Value) : a.eval (.const c) = c := rfl
end Go.Proofs.Ytpcfmafokkffgaa
namespace Go.Proofs.Ytpcfmafokkffgaa
open Go.RowKit

def next15 (m : Int) (L : List T) (k e : Int) : (Int × Int) × Int × List T :=
  if e < 0 ∨ 1000 ≤ e then ((0, 0), 13, L)
  else if (put m L (keyT k 2)).2.1 = 0 then (((put m L (keyT k 2)).1, e + 1), 0, (put m L (keyT k 2)).2.2) else ((0, 0), (put m L (keyT k 2)).2.1, (put m L (keyT k 2)).2.2)

section
variable {W w : World} {Rs : List Res} {b : Nat} {L L2 : List T} {m r1 r2 : Int}

set_option maxRecDepth 100000 in
set_option maxHeartbeats 1000000 in
theorem seal15_calls (k e : Int) (hq : put m L (keyT k 1) = (r1, r2, L2)) (h : Hd W w (Sto b L m :: Rs)) :
    Calls Try.prog 21 #[.agg #[.int .i64 k, .int .i64 e], .pointer (some ⟨b, 0, none⟩)] w fun e w' => e = .returned (.tuple #[.int .i64 r1, .int .i64 r2]) ∧ Hd W w' (Sto b L2 m :: Rs) := by
  have Hq := hid hq
  have H := hid h
  clear hq h
  go_enter Try.func21, Try.ntmps21
  go_wp2_with fail
  refine (derive_c k 1 Hq (by first | exact H.out | exact H.out.al | exact H.out.al.al)).mono ?_
  rintro e w1 ⟨rfl, h1⟩
  replace H := hid h1
  clear h1
  go_wp2_with fail
  go_ret2
  exact ⟨rfl, H.out⟩

set_option maxRecDepth 100000 in
set_option maxHeartbeats 1000000 in
theorem rseal15_calls (k e : Int) (hq : put m L (keyT k 1) = (r1, r2, L2)) (h : Hd W w (RSto b L m :: Rs)) :
    Calls Try.prog 27 #[.pointer (some ⟨b, 0, none⟩), .agg #[.int .i64 k, .int .i64 e]] w fun e w' => e = .returned (.tuple #[.int .i64 r1, .int .i64 r2]) ∧ Hd W w' (RSto b L2 m :: Rs) := by
  have Hq := hid hq
  have H := hid h
  clear hq h
  go_enter Try.func27, Try.ntmps27
  go_wp2_with fail
  refine (rderive_c k 1 Hq (by first | exact H.out | exact H.out.al | exact H.out.al.al)).mono ?_
  rintro e w1 ⟨rfl, h1⟩
  replace H := hid h1
  clear h1
  go_wp2_with fail
  go_ret2
  exact ⟨rfl, H.out⟩


set_option maxRecDepth 100000 in
set_option maxHeartbeats 4000000 in
theorem next15_calls (k e : Int) {dk de : Int} (hq : next15 m L k e = ((dk, de), r2, L2)) (h : Hd W w (Sto b L m :: Rs)) :
    Calls Try.prog 22 #[.agg #[.int .i64 k, .int .i64 e], .pointer (some ⟨b, 0, none⟩)] w fun e' w' => e' = .returned (.tuple #[.agg #[.int .i64 dk, .int .i64 de], .int .i64 r2]) ∧ Hd W w' (Sto b L2 m :: Rs) := by
  have H := hid (((h.boxk (o := .cells #[.int .i64 k, .int .i64 e] 32 (0, 0)) w.heap.size rfl).boxk (o := .cells #[.int .i64 0, .int .i64 0] 32 (0, 0)) (w.heap.size + 1) (by simp)).front 2 rfl)
  clear h
  unfold next15 at hq
  by_cases he : e < 0 ∨ 1000 ≤ e
  · rw [if_pos he] at hq
    simp only [Prod.mk.injEq] at hq
    obtain ⟨⟨rfl, rfl⟩, rfl, rfl⟩ := hq
    rcases (show e < 0 ∨ (¬ e < 0 ∧ 1000 ≤ e) by omega) with he | ⟨he1, he⟩
    · have d1 : decide (e < 0) = true := by simpa using he
      clear he
      obtain ⟨wo, hwo⟩ : ∃ wo, (w.alloc (.cells #[.int .i64 k, .int .i64 e] 32 (0, 0))).alloc (.cells #[.int .i64 0, .int .i64 0] 32 (0, 0)) = wo := ⟨_, rfl⟩
      rw [hwo] at H
      have hk := Hd.nthk 2 H.out rfl
      have c0 := (cell_of_heap hk 0).trans (show _ = some (.int .i64 k) from rfl)
      have c1 := (cell_of_heap hk 1).trans (show _ = some (.int .i64 e) from rfl)
      have cs := (Array.getElem?_eq_some_iff.1 hk).1
      clear hk
      have hk := Hd.nthk 1 H.out rfl
      have q0 := (cell_of_heap hk 0).trans (show _ = some (.int .i64 0) from rfl)
      have q1 := (cell_of_heap hk 1).trans (show _ = some (.int .i64 0) from rfl)
      have qs := (Array.getElem?_eq_some_iff.1 hk).1
      have qf := frozen_of_heap hk
      clear hk
      go_enter Try.func22, Try.ntmps22
      go_wp2_with fail
      refine bodyPost_ret (v := .tuple #[.agg #[.int .i64 0, .int .i64 0], .int .i64 13]) (by simp [results, Try.results22, go_sem, q0, q1]) rfl ⟨rfl, ?_⟩
      exact ((((H.out.front 1 rfl).set 0 (.int .i64 0)).set 1 (.int .i64 0)).drop).un2
    · have d1 : decide (e < 0) = false := by simpa using he1
      have d2 : decide (1000 ≤ e) = true := by simp; omega
      clear he he1
      obtain ⟨wo, hwo⟩ : ∃ wo, (w.alloc (.cells #[.int .i64 k, .int .i64 e] 32 (0, 0))).alloc (.cells #[.int .i64 0, .int .i64 0] 32 (0, 0)) = wo := ⟨_, rfl⟩
      rw [hwo] at H
      have hk := Hd.nthk 2 H.out rfl
      have c0 := (cell_of_heap hk 0).trans (show _ = some (.int .i64 k) from rfl)
      have c1 := (cell_of_heap hk 1).trans (show _ = some (.int .i64 e) from rfl)
      have cs := (Array.getElem?_eq_some_iff.1 hk).1
      clear hk
      have hk := Hd.nthk 1 H.out rfl
      have q0 := (cell_of_heap hk 0).trans (show _ = some (.int .i64 0) from rfl)
      have q1 := (cell_of_heap hk 1).trans (show _ = some (.int .i64 0) from rfl)
      have qs := (Array.getElem?_eq_some_iff.1 hk).1
      have qf := frozen_of_heap hk
      clear hk
      go_enter Try.func22, Try.ntmps22
      go_wp2_with fail
      refine bodyPost_ret (v := .tuple #[.agg #[.int .i64 0, .int .i64 0], .int .i64 13]) (by simp [results, Try.results22, go_sem, q0, q1]) rfl ⟨rfl, ?_⟩
      exact ((((H.out.front 1 rfl).set 0 (.int .i64 0)).set 1 (.int .i64 0)).drop).un2
  · rw [if_neg he] at hq
    have d1 : decide (e < 0) = false := by simp; omega
    have d2 : decide (1000 ≤ e) = false := by simp; omega
    have z1 : 0 ≤ e := by omega
    have z2 : e ≤ 1000 := by omega
    obtain ⟨p1, p2, L3, hp⟩ : ∃ p1 p2 L3, put m L (keyT k 2) = (p1, p2, L3) := ⟨_, _, _, rfl⟩
    rw [hp] at hq
    have HP := hid hp
    clear hp he
    go_enter Try.func22, Try.ntmps22
    go_wp2_with fail
    refine (derive_c k 2 HP H.out).mono ?_
    rintro e2 w1 ⟨rfl, h1⟩
    replace H := hid h1
    clear h1
    by_cases hz : p2 = 0
    · subst hz
      rw [if_pos rfl] at hq
      simp only [Prod.mk.injEq] at hq
      obtain ⟨⟨rfl, rfl⟩, rfl, rfl⟩ := hq
      have hk := Hd.nthk 2 H.out rfl
      have c0 := (cell_of_heap hk 0).trans (show _ = some (.int .i64 k) from rfl)
      have c1 := (cell_of_heap hk 1).trans (show _ = some (.int .i64 e) from rfl)
      have cs := (Array.getElem?_eq_some_iff.1 hk).1
      clear hk
      have hk := Hd.nthk 1 H.out rfl
      have q0 := (cell_of_heap hk 0).trans (show _ = some (.int .i64 0) from rfl)
      have q1 := (cell_of_heap hk 1).trans (show _ = some (.int .i64 0) from rfl)
      have qs := (Array.getElem?_eq_some_iff.1 hk).1
      have qf := frozen_of_heap hk
      clear hk
      go_wp2_with fail
      refine bodyPost_ret (v := .tuple #[.agg #[.int .i64 p1, .int .i64 (e + 1)], .int .i64 0]) (by simp [results, Try.results22, go_sem, q0, q1]) rfl ⟨rfl, ?_⟩
      exact ((((H.out.front 1 rfl).set 0 (.int .i64 p1)).set 1 (.int .i64 (e + 1))).drop).un2
    · have dz : (p2 != 0) = true := by rw [bne_iff_ne]; exact hz
      rw [if_neg hz] at hq
      simp only [Prod.mk.injEq] at hq
      obtain ⟨⟨rfl, rfl⟩, rfl, rfl⟩ := hq
      have dz2 : decide (p2 = 0) = false := by simpa using hz
      clear hz
      have hk := Hd.nthk 2 H.out rfl
      have c0 := (cell_of_heap hk 0).trans (show _ = some (.int .i64 k) from rfl)
      have c1 := (cell_of_heap hk 1).trans (show _ = some (.int .i64 e) from rfl)
      have cs := (Array.getElem?_eq_some_iff.1 hk).1
      clear hk
      have hk := Hd.nthk 1 H.out rfl
      have q0 := (cell_of_heap hk 0).trans (show _ = some (.int .i64 0) from rfl)
      have q1 := (cell_of_heap hk 1).trans (show _ = some (.int .i64 0) from rfl)
      have qs := (Array.getElem?_eq_some_iff.1 hk).1
      have qf := frozen_of_heap hk
      clear hk
      go_wp2_with fail
      refine bodyPost_ret (v := .tuple #[.agg #[.int .i64 0, .int .i64 0], .int .i64 p2]) (by simp [results, Try.results22, go_sem, q0, q1]) rfl ⟨rfl, ?_⟩
      exact ((((H.out.front 1 rfl).set 0 (.int .i64 0)).set 1 (.int .i64 0)).drop).un2

set_option maxRecDepth 100000 in
set_option maxHeartbeats 4000000 in
theorem rnext15_calls (k e : Int) {dk de : Int} (hq : next15 m L k e = ((dk, de), r2, L2)) (h : Hd W w (RSto b L m :: Rs)) :
    Calls Try.prog 29 #[.pointer (some ⟨b, 0, none⟩), .agg #[.int .i64 k, .int .i64 e]] w fun e' w' => e' = .returned (.tuple #[.agg #[.int .i64 dk, .int .i64 de], .int .i64 r2]) ∧ Hd W w' (RSto b L2 m :: Rs) := by
  have H := hid (((h.boxk (o := .cells #[.int .i64 k, .int .i64 e] 57 (0, 0)) w.heap.size rfl).boxk (o := .cells #[.int .i64 0, .int .i64 0] 57 (0, 0)) (w.heap.size + 1) (by simp)).front 2 rfl)
  clear h
  unfold next15 at hq
  by_cases he : e < 0 ∨ 1000 ≤ e
  · rw [if_pos he] at hq
    simp only [Prod.mk.injEq] at hq
    obtain ⟨⟨rfl, rfl⟩, rfl, rfl⟩ := hq
    rcases (show e < 0 ∨ (¬ e < 0 ∧ 1000 ≤ e) by omega) with he | ⟨he1, he⟩
    · have d1 : decide (e < 0) = true := by simpa using he
      clear he
      obtain ⟨wo, hwo⟩ : ∃ wo, (w.alloc (.cells #[.int .i64 k, .int .i64 e] 57 (0, 0))).alloc (.cells #[.int .i64 0, .int .i64 0] 57 (0, 0)) = wo := ⟨_, rfl⟩
      rw [hwo] at H
      have hk := Hd.nthk 2 H.out rfl
      have c0 := (cell_of_heap hk 0).trans (show _ = some (.int .i64 k) from rfl)
      have c1 := (cell_of_heap hk 1).trans (show _ = some (.int .i64 e) from rfl)
      have cs := (Array.getElem?_eq_some_iff.1 hk).1
      clear hk
      have hk := Hd.nthk 1 H.out rfl
      have q0 := (cell_of_heap hk 0).trans (show _ = some (.int .i64 0) from rfl)
      have q1 := (cell_of_heap hk 1).trans (show _ = some (.int .i64 0) from rfl)
      have qs := (Array.getElem?_eq_some_iff.1 hk).1
      have qf := frozen_of_heap hk
      clear hk
      go_enter Try.func29, Try.ntmps29
      go_wp2_with fail
      refine bodyPost_ret (v := .tuple #[.agg #[.int .i64 0, .int .i64 0], .int .i64 13]) (by simp [results, Try.results29, go_sem, q0, q1]) rfl ⟨rfl, ?_⟩
      exact ((((H.out.front 1 rfl).set 0 (.int .i64 0)).set 1 (.int .i64 0)).drop).un2
    · have d1 : decide (e < 0) = false := by simpa using he1
      have d2 : decide (999 < e) = true := by simp; omega
      clear he he1
      obtain ⟨wo, hwo⟩ : ∃ wo, (w.alloc (.cells #[.int .i64 k, .int .i64 e] 57 (0, 0))).alloc (.cells #[.int .i64 0, .int .i64 0] 57 (0, 0)) = wo := ⟨_, rfl⟩
      rw [hwo] at H
      have hk := Hd.nthk 2 H.out rfl
      have c0 := (cell_of_heap hk 0).trans (show _ = some (.int .i64 k) from rfl)
      have c1 := (cell_of_heap hk 1).trans (show _ = some (.int .i64 e) from rfl)
      have cs := (Array.getElem?_eq_some_iff.1 hk).1
      clear hk
      have hk := Hd.nthk 1 H.out rfl
      have q0 := (cell_of_heap hk 0).trans (show _ = some (.int .i64 0) from rfl)
      have q1 := (cell_of_heap hk 1).trans (show _ = some (.int .i64 0) from rfl)
      have qs := (Array.getElem?_eq_some_iff.1 hk).1
      have qf := frozen_of_heap hk
      clear hk
      go_enter Try.func29, Try.ntmps29
      go_wp2_with fail
      refine bodyPost_ret (v := .tuple #[.agg #[.int .i64 0, .int .i64 0], .int .i64 13]) (by simp [results, Try.results29, go_sem, q0, q1]) rfl ⟨rfl, ?_⟩
      exact ((((H.out.front 1 rfl).set 0 (.int .i64 0)).set 1 (.int .i64 0)).drop).un2
  · rw [if_neg he] at hq
    have d1 : decide (e < 0) = false := by simp; omega
    have d2 : decide (999 < e) = false := by simp; omega
    have z1 : 0 ≤ e := by omega
    have z2 : e ≤ 1000 := by omega
    obtain ⟨p1, p2, L3, hp⟩ : ∃ p1 p2 L3, put m L (keyT k 2) = (p1, p2, L3) := ⟨_, _, _, rfl⟩
    rw [hp] at hq
    have HP := hid hp
    clear hp he
    go_enter Try.func29, Try.ntmps29
    go_wp2_with fail
    refine (rderive_c k 2 HP H.out).mono ?_
    rintro e2 w1 ⟨rfl, h1⟩
    replace H := hid h1
    clear h1
    by_cases hz : p2 = 0
    · subst hz
      rw [if_pos rfl] at hq
      simp only [Prod.mk.injEq] at hq
      obtain ⟨⟨rfl, rfl⟩, rfl, rfl⟩ := hq
      have hk := Hd.nthk 2 H.out rfl
      have c0 := (cell_of_heap hk 0).trans (show _ = some (.int .i64 k) from rfl)
      have c1 := (cell_of_heap hk 1).trans (show _ = some (.int .i64 e) from rfl)
      have cs := (Array.getElem?_eq_some_iff.1 hk).1
      clear hk
      have hk := Hd.nthk 1 H.out rfl
      have q0 := (cell_of_heap hk 0).trans (show _ = some (.int .i64 0) from rfl)
      have q1 := (cell_of_heap hk 1).trans (show _ = some (.int .i64 0) from rfl)
      have qs := (Array.getElem?_eq_some_iff.1 hk).1
      have qf := frozen_of_heap hk
      clear hk
      go_wp2_with fail
      refine bodyPost_ret (v := .tuple #[.agg #[.int .i64 p1, .int .i64 (e + 1)], .int .i64 0]) (by simp [results, Try.results29, go_sem, q0, q1]) rfl ⟨rfl, ?_⟩
      exact ((((H.out.front 1 rfl).set 0 (.int .i64 p1)).set 1 (.int .i64 (e + 1))).drop).un2
    · have dz : (p2 != 0) = true := by rw [bne_iff_ne]; exact hz
      rw [if_neg hz] at hq
      simp only [Prod.mk.injEq] at hq
      obtain ⟨⟨rfl, rfl⟩, rfl, rfl⟩ := hq
      have dz2 : decide (p2 = 0) = false := by simpa using hz
      clear hz
      have hk := Hd.nthk 2 H.out rfl
      have c0 := (cell_of_heap hk 0).trans (show _ = some (.int .i64 k) from rfl)
      have c1 := (cell_of_heap hk 1).trans (show _ = some (.int .i64 e) from rfl)
      have cs := (Array.getElem?_eq_some_iff.1 hk).1
      clear hk
      have hk := Hd.nthk 1 H.out rfl
      have q0 := (cell_of_heap hk 0).trans (show _ = some (.int .i64 0) from rfl)
      have q1 := (cell_of_heap hk 1).trans (show _ = some (.int .i64 0) from rfl)
      have qs := (Array.getElem?_eq_some_iff.1 hk).1
      have qf := frozen_of_heap hk
      clear hk
      go_wp2_with fail
      refine bodyPost_ret (v := .tuple #[.agg #[.int .i64 0, .int .i64 0], .int .i64 p2]) (by simp [results, Try.results29, go_sem, q0, q1]) rfl ⟨rfl, ?_⟩
      exact ((((H.out.front 1 rfl).set 0 (.int .i64 0)).set 1 (.int .i64 0)).drop).un2

set_option maxRecDepth 100000 in
set_option maxHeartbeats 4000000 in
theorem ref15_calls (k e : Int) (w : World) :
    Calls Try.prog 28 #[.agg #[.int .i64 k, .int .i64 e]] w fun e' w' => e' = .returned (.agg #[.int .i64 k, .int .i64 e]) ∧ Below w.heap.size w w' := by
  have H := hid (((Hd.refl w).boxk (o := .cells #[.int .i64 k, .int .i64 e] 32 (0, 0)) w.heap.size rfl).boxk (o := .cells #[.int .i64 0, .int .i64 0] 57 (0, 0)) (w.heap.size + 1) (by simp))
  obtain ⟨wo, hwo⟩ : ∃ wo, (w.alloc (.cells #[.int .i64 k, .int .i64 e] 32 (0, 0))).alloc (.cells #[.int .i64 0, .int .i64 0] 57 (0, 0)) = wo := ⟨_, rfl⟩
  rw [hwo] at H
  have hk := Hd.nthk 1 H.out rfl
  have c0 := (cell_of_heap hk 0).trans (show _ = some (.int .i64 k) from rfl)
  have c1 := (cell_of_heap hk 1).trans (show _ = some (.int .i64 e) from rfl)
  have cs := (Array.getElem?_eq_some_iff.1 hk).1
  clear hk
  have hk := Hd.nthk 0 H.out rfl
  have q0 := (cell_of_heap hk 0).trans (show _ = some (.int .i64 0) from rfl)
  have q1 := (cell_of_heap hk 1).trans (show _ = some (.int .i64 0) from rfl)
  have qs := (Array.getElem?_eq_some_iff.1 hk).1
  have qf := frozen_of_heap hk
  clear hk
  go_enter Try.func28, Try.ntmps28
  go_wp2_with fail
  refine bodyPost_ret (v := .agg #[.int .i64 k, .int .i64 e]) (by simp [results, Try.results28, go_sem, q0, q1]) rfl ⟨rfl, ?_⟩
  exact ((H.out.set 0 (.int .i64 k)).set 1 (.int .i64 e)).below

end
end Go.Proofs.Ytpcfmafokkffgaa
namespace Go.Proofs.Ytpcfmafokkffgaa
open Go.RowKit Go.Shelf
attribute [local go_sem] Oper.semAt_some

/-- So many steps: the keys, the chain, what is wrong, the store. -/
def steps15 (m : Int) : Nat → List T → Int → Int → List Int × (Int × Int) × Int × List T
  | 0, L, k, e => ([], (k, e), 0, L)
  | n + 1, L, k, e =>
    if (put m L (keyT k 1)).2.1 = 0 then
      if (next15 m (put m L (keyT k 1)).2.2 k e).2.1 = 0 then
        let r := steps15 m n (next15 m (put m L (keyT k 1)).2.2 k e).2.2 (next15 m (put m L (keyT k 1)).2.2 k e).1.1 (next15 m (put m L (keyT k 1)).2.2 k e).1.2
        ((put m L (keyT k 1)).1 :: r.1, r.2)
      else ([], (k, e), (next15 m (put m L (keyT k 1)).2.2 k e).2.1, (next15 m (put m L (keyT k 1)).2.2 k e).2.2)
    else ([], (k, e), (put m L (keyT k 1)).2.1, (put m L (keyT k 1)).2.2)
theorem steps15_succ (m : Int) (n : Nat) (L : List T) (k e : Int) : steps15 m (n + 1) L k e =
    if (put m L (keyT k 1)).2.1 = 0 then
      if (next15 m (put m L (keyT k 1)).2.2 k e).2.1 = 0 then
        ((put m L (keyT k 1)).1 :: (steps15 m n (next15 m (put m L (keyT k 1)).2.2 k e).2.2 (next15 m (put m L (keyT k 1)).2.2 k e).1.1 (next15 m (put m L (keyT k 1)).2.2 k e).1.2).1, (steps15 m n (next15 m (put m L (keyT k 1)).2.2 k e).2.2 (next15 m (put m L (keyT k 1)).2.2 k e).1.1 (next15 m (put m L (keyT k 1)).2.2 k e).1.2).2)
      else ([], (k, e), (next15 m (put m L (keyT k 1)).2.2 k e).2.1, (next15 m (put m L (keyT k 1)).2.2 k e).2.2)
    else ([], (k, e), (put m L (keyT k 1)).2.1, (put m L (keyT k 1)).2.2) := rfl
/-- The chain of another epoch. -/
def to15 (m : Int) (L : List T) (k e x : Int) : (Int × Int) × List Int × Int × List T :=
  if x < e then ((0, 0), [], 12, L)
  else if 4 < x - e then ((0, 0), [], 13, L)
  else if (steps15 m (x - e).toNat L k e).2.2.1 = 0 then ((steps15 m (x - e).toNat L k e).2.1, (steps15 m (x - e).toNat L k e).1, 0, (steps15 m (x - e).toNat L k e).2.2.2)
  else ((0, 0), [], (steps15 m (x - e).toNat L k e).2.2.1, (steps15 m (x - e).toNat L k e).2.2.2)

theorem next15_epoch {m : Int} {L L2 : List T} {k e dk de : Int} (h : next15 m L k e = ((dk, de), 0, L2)) : de = e + 1 ∧ 0 ≤ e ∧ e < 1000 := by
  unfold next15 at h
  split at h
  · simp at h
  · split at h
    · simp only [Prod.mk.injEq] at h
      exact ⟨h.1.2.symm, by omega, by omega⟩
    · rename_i h2
      simp only [Prod.mk.injEq] at h
      exact absurd h.2.1 h2

section
variable {W w : World} {Rs : List Res}
set_option maxRecDepth 100000 in
set_option maxHeartbeats 1000000 in
theorem steps_calls (k e n : Int) (b : Nat) (h : Hd W w Rs) :
    Calls Try.prog 55 #[.agg #[.int .i64 k, .int .i64 e], .pointer (some ⟨b, 0, none⟩), .int .i64 n] w fun e' w' => ∃ c, e' = .returned (.func (.func 79) #[] #[.pointer (some ⟨c + 2, 0, none⟩), .pointer (some ⟨c, 0, none⟩), .pointer (some ⟨c + 1, 0, none⟩)]) ∧
      Hd W w' (Blk (c + 2) (.cells #[.int .i64 n] 3 (0, 0)) :: Blk (c + 1) (.cells #[.pointer (some ⟨b, 0, none⟩)] 25 (0, 0)) :: Blk c (.cells #[.int .i64 k, .int .i64 e] 32 (0, 0)) :: Rs) := by
  have H := hid (((h.boxk (o := .cells #[.int .i64 k, .int .i64 e] 32 (0, 0)) w.heap.size rfl).boxk (o := .cells #[.pointer (some ⟨b, 0, none⟩)] 25 (0, 0)) (w.heap.size + 1) (by simp)).boxk (o := .cells #[.int .i64 n] 3 (0, 0)) (w.heap.size + 2) (by simp))
  clear h
  go_enter Try.func55, Try.ntmps55
  go_wp2_with fail
  go_ret
  exact ⟨w.heap.size, rfl, H.out⟩
end

theorem swap_mid {A B C : List Res} : (A ++ (B ++ C)).Perm (B ++ (A ++ C)) := by
  rw [← List.append_assoc, ← List.append_assoc]
  exact List.perm_append_comm.append_right _
theorem Hd.dropTail4 {W w : World} {S A B C : Res} {Rs : List Res} (h : Hd W w (S :: A :: B :: C :: Rs)) : Hd W w (S :: Rs) := h.un2.un2.un2
theorem Hd.dropTail5 {W w : World} {D S A B C : Res} {Rs : List Res} (h : Hd W w (D :: S :: A :: B :: C :: Rs)) : Hd W w (S :: Rs) := h.drop.un2.un2.un2
theorem eq_Ch (k e k' e' : Int) (h : ¬ e = e') (w : World) : (binOp .eql 32 (.agg #[.int .i64 k, .int .i64 e]) (.agg #[.int .i64 k', .int .i64 e'])).run Try.prog w = .ok (.bool false) w := by
  have q : (Op.equalIn 10000 32 (.agg #[.int .i64 k, .int .i64 e]) (.agg #[.int .i64 k', .int .i64 e'])).run Try.prog w = .ok false w := by
    go_simp
  rw [run_eql_struct, q]
  rfl

section
variable {W w : World} {Xs : List Res} {b : Nat} {L : List T} {m : Int}

set_option maxRecDepth 100000 in
set_option maxHeartbeats 4000000 in
theorem steps1_in (nn : Nat) (l : Nat) (k e : Int) (N : Nat) (hN : N ≤ 4) (c : Nat) (J : List Int → Int → Int → List Res → Prop)
    (hY : ∀ (mm : Nat) (pre : List Int) (lk le x dk de : Int) (Js : List Res) (w : World) (Xs : List Res), pre.length < 4 → J pre lk le Js → Hd W w (Js ++ Xs) → YieldAt Fence.wide mm Try.prog l #[.int .i64 x, .agg #[.int .i64 dk, .int .i64 de]] w fun e w' => e = .returned (.bool true) ∧ ∃ Js', J (pre ++ [x]) dk de Js' ∧ Hd W w' (Js' ++ Xs)) (Js0 : List Res) (hJ0 : J [] k e Js0)
    (h : Hd W w (Sto b L m :: Blk c (.cells #[.int .i64 k, .int .i64 e] 32 (0, 0)) :: Blk (c + 1) (.cells #[.pointer (some ⟨b, 0, none⟩)] 25 (0, 0)) :: Blk (c + 2) (.cells #[.int .i64 N] 3 (0, 0)) :: (Js0 ++ Xs))) :
    CallsIn Fence.wide nn Try.prog 79 #[.func (.yield l) #[] #[], .pointer (some ⟨c + 2, 0, none⟩), .pointer (some ⟨c, 0, none⟩), .pointer (some ⟨c + 1, 0, none⟩)] w fun e' w' =>
      e' = .returned (.int .i64 (steps15 m N L k e).2.2.1) ∧ ∃ pre lk le Js, ((steps15 m N L k e).2.2.1 = 0 → pre = (steps15 m N L k e).1 ∧ (lk, le) = (steps15 m N L k e).2.1) ∧ J pre lk le Js ∧ Hd W w' (Sto b (steps15 m N L k e).2.2.2 m :: (Js ++ Xs)) := by
  have H0 := hid h
  clear h
  have HY := hid hY
  clear hY
  refine callsIn_of_wp Try.func79 rfl trivial ?_ rfl
  simp only [Try.ntmps79, List.size_toArray, List.length_cons, List.length_nil, Nat.reduceAdd, Nat.reduceSub, Array.replicate_succ, Array.replicate_zero, List.push_toArray, List.append_toArray, List.nil_append, List.cons_append]
  have hk := Hd.nthk 3 H0.out rfl
  have n0 := (cell_of_heap hk 0).trans (show _ = some (.int .i64 N) from rfl)
  clear hk
  gi_wp2
  clear n0
  gi_loopw [10] (fun p wr => ∃ (i : Nat) (pre : List Int) (k1 e1 : Int) (L1 : List T) (Js : List Res), i ≤ N ∧ p = .int .i64 i ∧ pre.length = i ∧ Hid (J pre k1 e1 Js) ∧ Hid ((steps15 m N L k e).2 = (steps15 m (N - i) L1 k1 e1).2 ∧ (steps15 m N L k e).1 = pre ++ (steps15 m (N - i) L1 k1 e1).1) ∧
      Hid (Hd W wr (Sto b L1 m :: Blk c (.cells #[.int .i64 k1, .int .i64 e1] 32 (0, 0)) :: Blk (c + 1) (.cells #[.pointer (some ⟨b, 0, none⟩)] 25 (0, 0)) :: Blk (c + 2) (.cells #[.int .i64 N] 3 (0, 0)) :: (Js ++ Xs)))) (fun p _ => N - (intOf p).toNat)
  case atStart => exact ⟨0, [], k, e, L, Js0, Nat.zero_le _, rfl, rfl, hid hJ0, hid ⟨rfl, rfl⟩, H0⟩
  case round =>
    clear H0
    obtain ⟨i, pre, k1, e1, L1, Js, hi, rfl, hpre, HJ, HS, H⟩ := hrel
    obtain ⟨wo, hwo⟩ : ∃ wo : World, wo = wr := ⟨_, rfl⟩
    rw [← hwo] at H ⊢
    clear hwo wr
    have hi0 : 0 ≤ (i : Int) := by omega
    by_cases hlt : i < N
    · have d1 : decide ((i : Int) < (N : Int)) = true := by simp; omega
      have d1' : decide (i < N) = true := by simp; omega
      obtain ⟨q, hq⟩ : ∃ q, N - i = q + 1 := ⟨N - i - 1, by omega⟩
      obtain ⟨s1, s2, L2, hs⟩ : ∃ s1 s2 L2, put m L1 (keyT k1 1) = (s1, s2, L2) := ⟨_, _, _, rfl⟩
      have hst := HS.out
      rw [hq, steps15_succ] at hst
      rw [hs] at hst
      dsimp only at hst
      have HP := hid hs
      clear hs
      have hk := Hd.nthk 1 H.out rfl
      have c0 := (cell_of_heap hk 0).trans (show _ = some (.int .i64 k1) from rfl)
      have c1 := (cell_of_heap hk 1).trans (show _ = some (.int .i64 e1) from rfl)
      clear hk
      have hk := Hd.nthk 2 H.out rfl
      have b0 := (cell_of_heap hk 0).trans (show _ = some (.pointer (some ⟨b, 0, none⟩)) from rfl)
      clear hk
      have HST := hid hst
      have HPRE := hid hpre
      have HQ := hid hq
      clear hst hpre hq
      gi_wp2
      refine ⟨trivial, fun h => (by cases h), ?_⟩
      refine (callsIn_wide.2 (seal15_calls k1 e1 HP.out H.out)).mono ?_
      rintro e' w2 ⟨rfl, hd⟩
      have H2 := hid hd
      clear hd c0 c1 b0 H
      have H := H2
      clear H2
      by_cases hs0 : s2 = 0
      · subst hs0
        have hst := HST.out
        rw [if_pos rfl] at hst
        obtain ⟨dk, de, x2, L3, hx⟩ : ∃ dk de x2 L3, next15 m L2 k1 e1 = ((dk, de), x2, L3) := ⟨_, _, _, _, rfl⟩
        rw [hx] at hst
        dsimp only at hst
        have HX := hid hx
        have HST2 := hid hst
        clear hst HST hx
        have hk := Hd.nthk 1 H.out rfl
        have c0 := (cell_of_heap hk 0).trans (show _ = some (.int .i64 k1) from rfl)
        have c1 := (cell_of_heap hk 1).trans (show _ = some (.int .i64 e1) from rfl)
        clear hk
        have hk := Hd.nthk 2 H.out rfl
        have b0 := (cell_of_heap hk 0).trans (show _ = some (.pointer (some ⟨b, 0, none⟩)) from rfl)
        clear hk
        gi_wp2
        refine ⟨trivial, fun h => (by cases h), ?_⟩
        refine (callsIn_wide.2 (next15_calls k1 e1 HX.out H.out)).mono ?_
        rintro e' w3 ⟨rfl, hd⟩
        have H2 := hid (hd.boxk (o := .cells #[.int .i64 dk, .int .i64 de] 32 (0, 0)) w3.heap.size rfl)
        clear hd c0 c1 b0 H
        have H := H2
        clear H2
        by_cases hx0 : x2 = 0
        · subst hx0
          have hst := HST2.out
          rw [if_pos rfl] at hst
          have HST := hid hst
          clear hst HST2
          obtain ⟨hde, he0, he1⟩ := next15_epoch HX.out
          have heq := eq_Ch k1 e1 dk de (by omega)
          clear hde he0 he1
          obtain ⟨wd, hwd⟩ : ∃ wd, w3.alloc (.cells #[.int .i64 dk, .int .i64 de] 32 (0, 0)) = wd := ⟨_, rfl⟩
          rw [hwd] at H
          have HWD := hid hwd
          have hk := Hd.nthk 2 H.out rfl
          have c0 := (cell_of_heap hk 0).trans (show _ = some (.int .i64 k1) from rfl)
          have c1 := (cell_of_heap hk 1).trans (show _ = some (.int .i64 e1) from rfl)
          clear hk
          have hk := Hd.nthk 0 H.out rfl
          have dd0 := (cell_of_heap hk 0).trans (show _ = some (.int .i64 dk) from rfl)
          have dd1 := (cell_of_heap hk 1).trans (show _ = some (.int .i64 de) from rfl)
          clear hk
          have hH := Hd.perm (swap_mid (A := [Blk w3.heap.size (.cells #[.int .i64 dk, .int .i64 de] 32 (0, 0)), Sto b L3 m, Blk c (.cells #[.int .i64 k1, .int .i64 e1] 32 (0, 0)), Blk (c + 1) (.cells #[.pointer (some ⟨b, 0, none⟩)] 25 (0, 0)), Blk (c + 2) (.cells #[.int .i64 N] 3 (0, 0))])) H.out
          obtain ⟨fn, tmps, assign, body, hy, hR⟩ := HY.out (nn - 1) pre k1 e1 s1 dk de Js wd _ (by have := HPRE.out; omega) HJ.out hH
          have HRR := hid hR
          clear hR hH
          subst hwd
          gi_wp2
          refine ⟨fun h => (by cases h), ?_⟩
          refine HRR.out.mono ?_
          rintro e' w4 ⟨rfl, Js2, hJ2, hd⟩
          have H2 := hid (Hd.perm swap_mid hd)
          have HJ2 := hid hJ2
          clear hJ2 HJ hd c0 c1 dd0 dd1 H HRR hy heq HWD
          have H := H2
          clear H2
          have hk := Hd.nthk 0 H.out rfl
          have dd0 := (cell_of_heap hk 0).trans (show _ = some (.int .i64 dk) from rfl)
          have dd1 := (cell_of_heap hk 1).trans (show _ = some (.int .i64 de) from rfl)
          clear hk
          have hk := Hd.nthk 2 H.out rfl
          have c0 := (cell_of_heap hk 0).trans (show _ = some (.int .i64 k1) from rfl)
          have c1 := (cell_of_heap hk 1).trans (show _ = some (.int .i64 e1) from rfl)
          have cs := (Array.getElem?_eq_some_iff.1 hk).1
          have cf := frozen_of_heap hk
          clear hk
          have zDC := blks_ne ((H.out.front 2 rfl).front 1 rfl)
          gi_wp2
          go_roundw
          case rel => exact ⟨i + 1, pre ++ [s1], dk, de, L3, Js2, by omega, by go_num, by simp [HPRE.out], HJ2, hid (by
            have h1 := HST.out
            have h2 := HQ.out
            rw [show N - (i + 1) = q by omega]
            refine ⟨h1.1, ?_⟩
            rw [h1.2]
            simp), hid (((((H.out.front 2 rfl).set 0 (.int .i64 dk)).set 1 (.int .i64 de)).front 1 rfl).drop.swap)⟩
          case measure => simp [intOf]; omega
        · have dx : (x2 != 0) = true := by rw [bne_iff_ne]; exact hx0
          have dx' : decide (x2 = 0) = false := by simpa using hx0
          have hst := HST2.out
          rw [if_neg hx0] at hst
          clear hx0
          gi_wp2
          refine bodyPost_ret (v := .int .i64 x2) (by simp [results, Try.results79, go_sem]) rfl ?_
          refine ⟨by rw [hst.1], pre, k1, e1, Js, fun h0 => ?_, HJ.out, ?_⟩
          · rw [hst.1] at h0; dsimp only at h0; rw [h0] at dx; cases dx
          · rw [hst.1]
            exact Hd.dropTail5 H.out
      · have dx : (s2 != 0) = true := by rw [bne_iff_ne]; exact hs0
        have dx' : decide (s2 = 0) = false := by simpa using hs0
        have hst := HST.out
        rw [if_neg hs0] at hst
        clear hs0
        gi_wp2
        refine bodyPost_ret (v := .int .i64 s2) (by simp [results, Try.results79, go_sem]) rfl ?_
        refine ⟨by rw [hst.1], pre, k1, e1, Js, fun h0 => ?_, HJ.out, ?_⟩
        · rw [hst.1] at h0; dsimp only at h0; rw [h0] at dx; cases dx
        · rw [hst.1]
          exact Hd.dropTail4 H.out
    · obtain rfl : i = N := by omega
      have d1 : decide ((i : Int) < (i : Int)) = false := by simp
      have hst := HS.out
      rw [Nat.sub_self] at hst
      clear hlt hpre
      gi_wp2
      refine bodyPost_ret (v := .int .i64 0) (by simp [results, Try.results79, go_sem]) rfl ?_
      refine ⟨by rw [hst.1]; rfl, pre, k1, e1, Js, fun _ => ?_, HJ.out, ?_⟩
      · rw [hst.1, hst.2]; simp [steps15]
      · rw [hst.1]
        exact Hd.dropTail4 H.out
end
end Go.Proofs.Ytpcfmafokkffgaa
namespace Go.Proofs.Ytpcfmafokkffgaa
open Go.RowKit

/-- A slice value that owns its row: n elements of the type e, of so many cells each. -/
def RowR (e : TypeId) (size : Nat) (v : Value) (n : Nat) (xs : List Value) : Res := fun f => xs.length = n * size ∧
  ((v = .slice none 0 0 ∧ n = 0 ∧ f = fun _ => none) ∨
   ∃ g cap cur, v = .slice (some ⟨g, 0, none⟩) n cap ∧ n ≤ cap ∧ cap ≤ maxLen ∧ cur.size = cap * size ∧ cur.toList.take (n * size) = xs ∧ f = fun j => if j = g then some (.cells cur e (0, 0)) else none)

def nums (k : IntKind) (xs : List Int) : List Value := xs.map (.int k)

section
variable {W w X w' : World} {e : TypeId} {size n n' : Nat} {v : Value} {xs ys : List Value} {Rs : List Res}

theorem rowR_owns {f : Frag} (h : RowR e size v n xs f) (hf : FragIn f w) : w.ownsRow 0 e size v n xs := by
  obtain ⟨hl, ⟨rfl, rfl, rfl⟩ | ⟨g, cap, cur, rfl, h1, h2, h3, h4, rfl⟩⟩ := h
  · exact ⟨hl, .inl ⟨rfl, rfl⟩⟩
  · exact ⟨hl, .inr ⟨g, cap, cur, rfl, Nat.zero_le _, hf g _ (by simp), h1, h2, h3, h4⟩⟩

theorem Hd.owns (h : Hd W w (RowR e size v n xs :: Rs)) : w.ownsRow 0 e size v n xs := by
  obtain ⟨f, hR, hf, _⟩ := h.open
  exact rowR_owns hR hf

/-- After an append. -/
theorem Hd.grown (h : Hd W w (RowR e size v n xs :: Rs)) {g cap : Nat} (ho : w'.ownsRow 0 e size (.slice (some ⟨g, 0, none⟩) n' cap) n' ys) (hg : w.grownBy w' v.ownBlock) (hgg : v.ownBlock = some g ∨ g = w.heap.size) : Hd W w' (RowR e size (.slice (some ⟨g, 0, none⟩) n' cap) n' ys :: Rs) := by
  obtain ⟨f, hR, hf, hlt, hshut⟩ := h.open
  obtain ⟨hl, ⟨h1, _⟩ | ⟨g2, c2, cur, hv, _, hc, h3, h4, h5, h6⟩⟩ := ho
  · cases h1
  simp only [Value.slice.injEq, Option.some.injEq, Addr.mk.injEq, and_true] at hv
  obtain ⟨rfl, _, rfl⟩ := hv
  refine hshut w' _ (fun j => if j = g then some (.cells cur e (0, 0)) else none) ⟨hl, .inr ⟨g, cap, cur, rfl, h3, h4, h5, h6, rfl⟩⟩ (fun k o hk => ?_) (fun k hk => ?_) hg.os hg.tape hg.output hg.size (fun k hk hk2 => ?_)
  · dsimp only at hk
    split at hk
    · rename_i e1; subst e1; rw [hc]; exact hk
    · cases hk
  · split at hk
    · rename_i e1; subst e1
      obtain ⟨_, ⟨rfl, rfl, rfl⟩ | ⟨g3, c3, cur3, rfl, _, _, _, _, rfl⟩⟩ := hR
      · rcases hgg with h | h
        · cases h
        · exact .inr (by omega)
      · rcases hgg with h | h
        · simp only [Value.ownBlock, Option.some.injEq] at h; subst h; exact .inl (by simp)
        · exact .inr (by omega)
    · exact absurd rfl hk
  · refine hg.block k hk fun e1 => ?_
    obtain ⟨_, ⟨rfl, rfl, rfl⟩ | ⟨g3, c3, cur3, rfl, _, _, _, _, rfl⟩⟩ := hR
    · cases e1
    · simp only [Value.ownBlock, Option.some.injEq] at e1; subst e1; simp at hk2

/-- A cell of it. -/
theorem Hd.row_cell (h : Hd W w (RowR e size v n xs :: Rs)) {j : Nat} {u : Value} (hj : xs[j]? = some u) : ∃ g cap, v = .slice (some ⟨g, 0, none⟩) n cap ∧ w.cell? ⟨g, j, none⟩ = some u := by
  obtain ⟨hl, ⟨rfl, rfl⟩ | ⟨g, cap, cur, rfl, _, hc, h3, h4, h5, h6⟩⟩ := h.owns
  · have := (List.getElem?_eq_some_iff.1 hj).1
    omega
  · refine ⟨g, cap, rfl, ?_⟩
    rw [cell_of_heap hc, ← Array.getElem?_toList]
    exact get_of_take h6 hj
theorem Hd.row_form (h : Hd W w (RowR e size v n xs :: Rs)) : ∃ a cap, v = .slice a n cap := by
  obtain ⟨hl, ⟨rfl, rfl⟩ | ⟨g, cap, cur, rfl, _, hc, h3, h4, h5, h6⟩⟩ := h.owns
  · exact ⟨_, _, rfl⟩
  · exact ⟨_, _, rfl⟩

/-- A new empty one. -/
theorem Hd.row_new {E : TypeId} (h : Hd W w Rs) : Hd W (w.alloc (.cells #[] E (0, 0))) (RowR E 1 (.slice (some ⟨w.heap.size, 0, none⟩) 0 0) 0 [] :: Rs) := by
  refine h.add ((Below.refl _ _).alloc (Nat.le_refl _) _) (fun j => if j = w.heap.size then some (.cells #[] E (0, 0)) else none) ⟨rfl, .inr ⟨w.heap.size, 0, #[], rfl, Nat.le_refl _, Nat.zero_le _, rfl, rfl, rfl⟩⟩ (fun k o hk => ?_) (fun k hk => ?_)
  · dsimp only at hk
    split at hk
    · rename_i e1; subst e1; rw [heap_at rfl]; exact hk
    · cases hk
  · split at hk
    · omega
    · exact absurd rfl hk

theorem nums_get {k : IntKind} {zs : List Int} {j : Nat} (hj : j < zs.length) : (nums k zs)[j]? = some (.int k (zs.getD j 0)) := by
  simp [nums, List.getElem?_eq_getElem hj, List.getD]

/-- APPEND ONE NUMBER, at the list of a plain region's operations. -/
theorem append_num {ops : Array Oper} {rest : List Oper} {o : Oper} {a : Act} {Q : Exit → Act → World → Prop} {k : IntKind} {T E bytes : Nat} {i : TypeInfo} {zs : List Int} (ht : Try.prog.underlying T = some (.slice E)) (hi : Try.prog.info? E = some i) (hz : i.zero = some (.int k 0)) (hsize : i.size = 1) (hby : i.bytes = bytes) (hb8 : bytes ≤ 8)
    (hgd : o.guard = none) (s x : Operand) (ho : o.op = .call { callee := .builtin .append, args := #[s, x], argTypes := #[T, T] }) (h : Hd W w (RowR E 1 v n (nums k zs) :: Rs)) (hs : a.eval s = v) (d : Int) (hx : a.eval x = .slice (some ⟨w.heap.size, 0, none⟩) 1 1) (hn : n ≤ 1048577)
    (hK : ∀ g cap w', Hd W w' (RowR E 1 (.slice (some ⟨g, 0, none⟩) (n + 1) cap) (n + 1) (nums k (zs ++ [d])) :: Rs) → wpList Try.prog ops Q rest (a.put o.dst (.slice (some ⟨g, 0, none⟩) (n + 1) cap)) w') :
    wpList Try.prog ops Q (o :: rest) a (w.alloc (.cells #[.int k d] E (0, 0))) := by
  have hd := h.al (o := .cells #[.int k d] E (0, 0))
  refine wpList_append_lies _ hgd s x T ho 0 E i (.int k 0) 1 bytes ht hi hz hsize hby rfl (by decide) v n _ hs hd.owns ⟨w.heap.size, 0, none⟩ 1 1 [.int k d] hx rfl (World.news_of_block (heap_alloc_new _ _)) (by simp [Value.oneCell']) (by decide) (by simp only [maxLen]; omega) ?_ (Nat.zero_le _) _ rfl ?_
  · have : (n + 1) * bytes ≤ (n + 1) * 8 := Nat.mul_le_mul_left _ hb8
    omega
  · intro g cap w' ho' hg hgg _
    refine hK g cap w' ?_
    have := hd.grown ho' hg hgg
    rw [show nums k (zs ++ [d]) = nums k zs ++ [.int k d] by simp [nums]]
    exact this
end

theorem info_u8 : ∃ i, Try.prog.info? 5 = some i ∧ i.zero = some (.int .u8 0) ∧ i.size = 1 ∧ i.bytes = 1 := info_parts (by kernel_rfl)
end Go.Proofs.Ytpcfmafokkffgaa
