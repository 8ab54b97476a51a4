/-
  Walks through the document's package of layer 2: (*Store).Put, where a term is put. For every term and every memory that holds a store.
-/
import Derived.Test.YtpcfmafokkffgaaRPut
import Derived.Test.YtpcfmafokkffgaaRegB
import Derived.Deep.RegionHeld3
import Derived.Deep.RegionLaw
namespace Go.Proofs.Ytpcfmafokkffgaa
open Go.RowKit

/-- What a put of a new term leaves. -/
def RPutPost (b : Nat) (L : List T) (m : Int) (t : T) (f : Frag) (w w' : World) : Prop :=
  ∃ g : Frag, RSto b (L ++ [t]) m g ∧ FragIn g w' ∧ (∀ k, g k ≠ none → f k ≠ none ∨ w.heap.size ≤ k) ∧ w'.os = w.os ∧ w'.tape = w.tape ∧ w'.output = w.output ∧ w.heap.size ≤ w'.heap.size ∧ (∀ k, k < w.heap.size → f k = none → w'.heap[k]? = w.heap[k]?)

theorem rinfo_T : ∃ i, Try.prog.info? 114 = some i ∧ i.zero = some (T.val zeroT) ∧ i.size = 6 ∧ i.bytes = 56 := info_parts (by kernel_rfl)
theorem cells_one (t : T) : ∀ v ∈ t.cells, v.oneCell' = true := by
  intro u hu
  simp only [T.cells, List.mem_cons, List.not_mem_nil, or_false] at hu
  rcases hu with rfl | rfl | rfl | rfl | rfl | rfl <;> rfl

theorem rsto_owns {w w' : World} {b : Nat} {L : List T} {m : Int} {f : Frag} (h : RSto b L m f) (hf : FragIn f w) (hb : Below w.heap.size w w') : ∃ a cap, RStoAt w b L m a cap ∧ w'.ownsRow 0 114 6 (.slice a L.length cap) L.length (cellsOf L) ∧
    (∀ g, (Value.slice a L.length cap).ownBlock = some g → g ≠ b ∧ g < w.heap.size ∧ f g ≠ none) ∧ w.heap[b]? = some (.cells #[.slice a L.length cap, .int .i64 m] 131 (0, 0)) ∧ f b ≠ none := by
  obtain ⟨hok, h | h⟩ := h
  · obtain ⟨rfl, rfl⟩ := h
    have h0 : w.heap[b]? = some (.cells #[.slice none 0 0, .int .i64 m] 131 (0, 0)) := hf b _ (by simp [rFrag])
    refine ⟨none, 0, ⟨hok, by rw [cell_of_heap h0]; rfl, by rw [cell_of_heap h0]; rfl, fun j => frozen_of_heap h0 j, fun i t hi => by simp at hi, (Array.getElem?_eq_some_iff.1 h0).1⟩, ⟨rfl, .inl ⟨rfl, rfl⟩⟩, fun g e => by simp [Value.ownBlock] at e, h0, by simp [rFrag]⟩
  · obtain ⟨g, cap, cur, hne, rfl, h1, h2, h3, h4⟩ := h
    have h0 : w.heap[b]? = some (.cells #[.slice (some ⟨g, 0, none⟩) L.length cap, .int .i64 m] 131 (0, 0)) := hf b _ (by simp [rFrag])
    have hg : w.heap[g]? = some (.cells cur 114 (0, 0)) := hf g _ (by simp [rFrag, Ne.symm hne])
    have hlt := (Array.getElem?_eq_some_iff.1 hg).1
    refine ⟨some ⟨g, 0, none⟩, cap, ⟨hok, by rw [cell_of_heap h0]; rfl, by rw [cell_of_heap h0]; rfl, fun j => frozen_of_heap h0 j, fun i t hi => ⟨g, rfl, hlt, fun j v hj => ?_⟩, (Array.getElem?_eq_some_iff.1 h0).1⟩, ⟨cellsOf_length _, .inr ⟨g, cap, cur, rfl, Nat.zero_le _, (hb.block g hlt).trans hg, h2, h3, h1, h4⟩⟩, fun g' e => ?_, h0, by simp [rFrag]⟩
    · rw [cell_of_heap hg, ← Array.getElem?_toList]
      exact get_of_take h4 (cellsOf_get hi hj)
    · simp only [Value.ownBlock, Option.some.injEq] at e
      subst e
      exact ⟨Ne.symm hne, hlt, by simp [rFrag, Ne.symm hne]⟩
theorem rput_end {b : Nat} {L : List T} {m : Int} {f : Frag} {t : T} {w X w5 : World} {a : Option Addr} {cap g2 cap2 : Nat} (hok : RGood L m) (hb : Below w.heap.size w X) (hh : w.heap[b]? = some (.cells #[.slice a L.length cap, .int .i64 m] 131 (0, 0))) (hfb : f b ≠ none)
    (hgb : ∀ g, (Value.slice a L.length cap).ownBlock = some g → g ≠ b ∧ g < w.heap.size ∧ f g ≠ none) (ho : w5.ownsRow 0 114 6 (.slice (some ⟨g2, 0, none⟩) (L.length + 1) cap2) (L.length + 1) (cellsOf L ++ T.cells t)) (hg : X.grownBy w5 (Value.slice a L.length cap).ownBlock)
    (hgg : (Value.slice a L.length cap).ownBlock = some g2 ∨ g2 = X.heap.size) (hm : t.may L.length) (hi : find t L = none) (hlt : (L.length : Int) < m) :
    RPutPost b L m t f w (w5.setCell ⟨b, 0, none⟩ (.slice (some ⟨g2, 0, none⟩) (L.length + 1) cap2)) := by
  have hbl : b < w.heap.size := (Array.getElem?_eq_some_iff.1 hh).1
  have hsX := hb.size
  have hs5 := hg.size
  have hg2 : g2 ≠ b := by
    rcases hgg with h | h
    · exact (hgb g2 h).1
    · omega
  obtain ⟨_, ⟨h, _⟩ | ⟨g', cap', cur, hv, _, h2, h3, h4, h5, h6⟩⟩ := ho
  · cases h
  obtain ⟨rfl, rfl⟩ : g' = g2 ∧ cap' = cap2 := by simp at hv; exact ⟨hv.1.symm, hv.2.symm⟩
  have hk : ∀ k, k ≠ b → (w5.setCell ⟨b, 0, none⟩ (.slice (some ⟨g', 0, none⟩) (L.length + 1) cap')).heap[k]? = w5.heap[k]? := fun k hk => Below.heap_setCell _ _ _ _ hk
  have h5b : w5.heap[b]? = some (.cells #[.slice a L.length cap, .int .i64 m] 131 (0, 0)) := by
    rw [hg.block b (by omega) (fun e => (hgb b e.symm).1 rfl), hb.block b hbl]; exact hh
  refine ⟨rFrag b (.slice (some ⟨g', 0, none⟩) (L.length + 1) cap') m (some (g', cur)), ⟨⟨hok.good.snoc hm (find_none.1 hi), hok.m0, hok.m1, by simp; omega⟩, .inr ⟨g', cap', cur, Ne.symm hg2, by simp, h5, by simpa using h3, h4, ?_⟩⟩, fun k o hk' => ?_, fun k hk' => ?_, hg.os.trans hb.os, hg.tape.trans hb.tape, hg.output.trans hb.output, by simpa using Nat.le_trans hsX hs5, fun k hk1 hk2 => ?_⟩
  · rw [show (L ++ [t]).length = L.length + 1 from by simp, h6]
    simp [cellsOf]
  · unfold rFrag at hk'
    split at hk'
    · rename_i e
      subst e
      simp only [World.setCell, Array.getElem?_modify, h5b]
      simpa using hk'
    · simp only at hk'
      split at hk'
      · rename_i e; subst e; rw [hk _ hg2, h2]; exact hk'
      · cases hk'
  · unfold rFrag at hk'
    split at hk'
    · rename_i e; subst e; exact .inl hfb
    · simp only at hk'
      split at hk'
      · rename_i e
        subst e
        rcases hgg with h | h
        · exact .inl (hgb _ h).2.2
        · right; omega
      · exact absurd rfl hk'
  · rw [hk k (fun e => hfb (e ▸ hk2)), hg.block k (by omega) (fun e => (hgb k e.symm).2.2 hk2), hb.block k hk1]

set_option maxRecDepth 100000 in
set_option maxHeartbeats 4000000 in
theorem rput_new {b : Nat} {L : List T} {m : Int} {f : Frag} (k : Int) (s : ByteArray) (n a1 b1 c1 : Int) {w : World} (hR : RSto b L m f) (hfr : FragIn f w) (hm : T.may L.length ⟨k, s, n, a1, b1, c1⟩) (hi : find ⟨k, s, n, a1, b1, c1⟩ L = none) (hroom : (L.length : Int) < m) :
    Calls Try.prog 52 #[.pointer (some ⟨b, 0, none⟩), T.val ⟨k, s, n, a1, b1, c1⟩] w fun e w' => e = .returned (.tuple #[.int .i64 ((L.length : Int) + 1), .int .i64 0]) ∧ RPutPost b L m ⟨k, s, n, a1, b1, c1⟩ f w w' := by
  obtain ⟨a, cap, h, _, hgb, hh, hfb⟩ := rsto_owns hR hfr (Below.refl _ _)
  have Hh := hid hh
  have Hfb := hid hfb
  have Hok := hid h.ok
  clear hh hfb
  have HR := hid hR
  have Hfr := hid hfr
  have Hgb := hid hgb
  clear hR hfr hgb
  have Hi := hid hi
  have hl : L.length ≤ 1048576 := by have := h.ok.m1; have := h.ok.len; omega
  have Hm := hid hm
  clear hi
  have Hq : Hid (∀ w', RStoAt w' b L m a cap → Calls Try.prog 78 #[.pointer (some ⟨b, 0, none⟩), .agg #[.int .i64 k, .string s, .int .u64 n, .int .i64 a1, .int .i64 b1, .int .i64 c1]] w' fun e w'' => e = .returned (.bool true) ∧ Below w'.heap.size w' w'') := hid fun w' h' => by
    have hq := rmay_calls k s n a1 b1 c1 h'
    rw [decide_eq_true hm] at hq
    exact hq
  have Hs : Hid (∀ o, RStoAt (w.alloc o) b L m a cap) := hid fun o => h.later ((Below.refl _ _).alloc (Nat.le_refl _) _)
  clear h hm
  simp only [T.val]
  go_enter Try.func52, Try.ntmps52
  go_wp2_with fail
  refine (Hq.out _ (Hs.out _)).mono ?_
  rintro e w1 ⟨rfl, hb1⟩
  have hs1 := (Hs.out _).later hb1
  have hbox : w1.heap[w.heap.size]? = some (.cells #[.int .i64 k, .string s, .int .u64 n, .int .i64 a1, .int .i64 b1, .int .i64 c1] 114) := by rw [hb1.block _ (by simp)]; exact heap_at rfl
  have hbw : Below w.heap.size w w1 := ((Below.refl _ _).alloc (Nat.le_refl _) _).trans (hb1.mono (by simp <;> omega))
  clear hb1
  have d0 : ∀ x : Later w1, x.w.cell? ⟨w.heap.size, 0, none⟩ = some (.int .i64 k) := fun x => x.cell (by rw [cell_of_heap hbox]; rfl)
  have d1 : ∀ x : Later w1, x.w.cell? ⟨w.heap.size, 1, none⟩ = some (.string s) := fun x => x.cell (by rw [cell_of_heap hbox]; rfl)
  have d2 : ∀ x : Later w1, x.w.cell? ⟨w.heap.size, 2, none⟩ = some (.int .u64 n) := fun x => x.cell (by rw [cell_of_heap hbox]; rfl)
  have d3 : ∀ x : Later w1, x.w.cell? ⟨w.heap.size, 3, none⟩ = some (.int .i64 a1) := fun x => x.cell (by rw [cell_of_heap hbox]; rfl)
  have d4 : ∀ x : Later w1, x.w.cell? ⟨w.heap.size, 4, none⟩ = some (.int .i64 b1) := fun x => x.cell (by rw [cell_of_heap hbox]; rfl)
  have d5 : ∀ x : Later w1, x.w.cell? ⟨w.heap.size, 5, none⟩ = some (.int .i64 c1) := fun x => x.cell (by rw [cell_of_heap hbox]; rfl)
  have D0 := hid d0
  have D1 := hid d1
  have D2 := hid d2
  have D3 := hid d3
  have D4 := hid d4
  have D5 := hid d5
  have Hs1 := hid hs1
  have Hbox := hid hbox
  have Hbw := hid hbw
  clear hbox hbw hs1 d0 d1 d2 d3 d4 d5
  go_wp2_with fail
  go_loopw [6] (fun i6 wr => ∃ j : Nat, j ≤ L.length ∧ i6 = .int .i64 j ∧ Hid (Below w1.heap.size w1 wr)) (fun i6 _ => L.length - (intOf i6).toNat)
  case atStart => exact ⟨0, Nat.zero_le _, rfl, hid (Below.refl _ _)⟩
  case round =>
    obtain ⟨j, hj, rfl, Hb⟩ := hrel
    by_cases hlt : j < L.length
    · obtain ⟨t, ht⟩ : ∃ t, L[j]? = some t := ⟨L[j]'(by omega), List.getElem?_eq_getElem _⟩
      have hu : t ≠ ⟨k, s, n, a1, b1, c1⟩ := fun e => find_none.1 Hi.out (by rw [← e]; exact List.mem_of_getElem? ht)
      obtain ⟨k', s', n', a2, b2, c2⟩ := t
      obtain ⟨g, rfl, hg, hc⟩ := Hs1.out.cl j ⟨k', s', n', a2, b2, c2⟩ ht
      have e0 : ∀ x : Later wr, x.w.cell? ⟨b, 0, none⟩ = some (.slice (some ⟨g, 0, none⟩) L.length cap) := fun x => x.cell ((Hb.out.cell (p := ⟨b, 0, none⟩) Hs1.out.lt).trans Hs1.out.c0)
      have r0 : wr.cell? ⟨b, 0, none⟩ = some (.slice (some ⟨g, 0, none⟩) L.length cap) := (Hb.out.cell (p := ⟨b, 0, none⟩) Hs1.out.lt).trans Hs1.out.c0
      have g0 : ∀ x : Later wr, x.w.cell? ⟨g, j * 6, none⟩ = some (.int .i64 k') := fun x => x.cell ((Hb.out.cell (p := ⟨g, j * 6 + 0, none⟩) hg).trans (hc 0 _ rfl))
      have g1 : ∀ x : Later wr, x.w.cell? ⟨g, j * 6 + 1, none⟩ = some (.string s') := fun x => x.cell ((Hb.out.cell (p := ⟨g, j * 6 + 1, none⟩) hg).trans (hc 1 _ rfl))
      have g2 : ∀ x : Later wr, x.w.cell? ⟨g, j * 6 + 2, none⟩ = some (.int .u64 n') := fun x => x.cell ((Hb.out.cell (p := ⟨g, j * 6 + 2, none⟩) hg).trans (hc 2 _ rfl))
      have g3 : ∀ x : Later wr, x.w.cell? ⟨g, j * 6 + 3, none⟩ = some (.int .i64 a2) := fun x => x.cell ((Hb.out.cell (p := ⟨g, j * 6 + 3, none⟩) hg).trans (hc 3 _ rfl))
      have g4 : ∀ x : Later wr, x.w.cell? ⟨g, j * 6 + 4, none⟩ = some (.int .i64 b2) := fun x => x.cell ((Hb.out.cell (p := ⟨g, j * 6 + 4, none⟩) hg).trans (hc 4 _ rfl))
      have g5 : ∀ x : Later wr, x.w.cell? ⟨g, j * 6 + 5, none⟩ = some (.int .i64 c2) := fun x => x.cell ((Hb.out.cell (p := ⟨g, j * 6 + 5, none⟩) hg).trans (hc 5 _ rfl))
      have f0 : ∀ x : Later wr, x.w.cell? ⟨w.heap.size, 0, none⟩ = some (.int .i64 k) := fun x => D0.out ⟨x.w, Hb.out.trans (x.below.mono Hb.out.size)⟩
      have f1 : ∀ x : Later wr, x.w.cell? ⟨w.heap.size, 1, none⟩ = some (.string s) := fun x => D1.out ⟨x.w, Hb.out.trans (x.below.mono Hb.out.size)⟩
      have f2 : ∀ x : Later wr, x.w.cell? ⟨w.heap.size, 2, none⟩ = some (.int .u64 n) := fun x => D2.out ⟨x.w, Hb.out.trans (x.below.mono Hb.out.size)⟩
      have f3 : ∀ x : Later wr, x.w.cell? ⟨w.heap.size, 3, none⟩ = some (.int .i64 a1) := fun x => D3.out ⟨x.w, Hb.out.trans (x.below.mono Hb.out.size)⟩
      have f4 : ∀ x : Later wr, x.w.cell? ⟨w.heap.size, 4, none⟩ = some (.int .i64 b1) := fun x => D4.out ⟨x.w, Hb.out.trans (x.below.mono Hb.out.size)⟩
      have f5 : ∀ x : Later wr, x.w.cell? ⟨w.heap.size, 5, none⟩ = some (.int .i64 c1) := fun x => D5.out ⟨x.w, Hb.out.trans (x.below.mono Hb.out.size)⟩
      have hj0 : (0 : Int) ≤ (j : Int) := by omega
      have hj1 : (j : Int) < (L.length : Int) := by omega
      have hd1 : decide ((j : Int) < (L.length : Int)) = true := by simp; omega
      have hd2 : decide (j < L.length) = true := by simp; omega
      have heq : ∀ w : World, (binOp .eql 114 (.agg #[.int .i64 k', .string s', .int .u64 n', .int .i64 a2, .int .i64 b2, .int .i64 c2]) (.agg #[.int .i64 k, .string s, .int .u64 n, .int .i64 a1, .int .i64 b1, .int .i64 c1])).run Try.prog w = .ok (.bool false) w := fun w => by
        have := reql_T ⟨k', s', n', a2, b2, c2⟩ ⟨k, s, n, a1, b1, c1⟩ w
        rw [decide_eq_false hu] at this
        exact this
      clear hu hc hg
      go_wp2_with fail
      refine wp_region_calm (by kernel_rfl) (by kernel_rfl) ?_
      repeat (go_big_quiet_step (fail))
      refine wpQuiet_nil ?_
      intro w3 hw3
      obtain ⟨⟨w3, hb3⟩, rfl⟩ := hw3
      clear e0 r0 g0 g1 g2 g3 g4 g5 f0 f1 f2 f3 f4 f5 heq
      go_wp2_with fail
      go_roundw
      case rel => exact ⟨j + 1, by omega, by go_num, hid (Hb.out.trans (hb3.mono Hb.out.size))⟩
      case measure => simp [intOf]; omega
    · obtain rfl : j = L.length := by omega
      have r0 : wr.cell? ⟨b, 0, none⟩ = some (.slice a L.length cap) := (Hb.out.cell (p := ⟨b, 0, none⟩) Hs1.out.lt).trans Hs1.out.c0
      have e0 : ∀ x : Later wr, x.w.cell? ⟨b, 0, none⟩ = some (.slice a L.length cap) := fun x => x.cell r0
      have e1 : ∀ x : Later wr, x.w.cell? ⟨b, 1, none⟩ = some (.int .i64 m) := fun x => x.cell ((Hb.out.cell (p := ⟨b, 1, none⟩) Hs1.out.lt).trans Hs1.out.c1)
      have hd : decide (m ≤ (L.length : Int)) = false := by simpa using hroom
      have Hroom := hid hroom
      clear hroom hlt hj
      go_wp2_with fail
      refine wp_region_calm (by kernel_rfl) (by kernel_rfl) ?_
      repeat (go_big_quiet_step (fail))
      refine wpQuiet_nil ?_
      intro w3 hw3
      obtain ⟨⟨w3, hb3⟩, rfl⟩ := hw3
      clear e0 r0 e1
      go_wp2_with fail
      have hb13 : Below w1.heap.size w1 w3 := Hb.out.trans (hb3.mono Hb.out.size)
      have hbw3 : Below w.heap.size w w3 := Hbw.out.trans (hb13.mono Hbw.out.size)
      have hbox3 : w3.heap[w.heap.size]? = _ := (hb13.block _ (Array.getElem?_eq_some_iff.1 Hbox.out).1).trans Hbox.out
      obtain ⟨a', cap', hat', hown, hgb', _, _⟩ := rsto_owns HR.out Hfr.out hbw3
      obtain ⟨rfl, rfl⟩ : a' = a ∧ cap' = cap := by
        have e := (hbw3.cell (p := ⟨b, 0, none⟩) hat'.lt).trans hat'.c0
        have e2 := (hb13.cell (p := ⟨b, 0, none⟩) Hs1.out.lt).trans Hs1.out.c0
        rw [e2] at e
        simp only [Option.some.injEq, Value.slice.injEq] at e
        exact ⟨e.1.symm, e.2.2.symm⟩
      have x0 : w3.cell? ⟨b, 0, none⟩ = some (.slice a' L.length cap') := (hb13.cell (p := ⟨b, 0, none⟩) Hs1.out.lt).trans Hs1.out.c0
      have xf : w3.frozen? ⟨b, 0, none⟩ = false := (hb13.frozen (p := ⟨b, 0, none⟩) Hs1.out.lt).trans (Hs1.out.fz 0)
      have y0 : w3.cell? ⟨w.heap.size, 0, none⟩ = some (.int .i64 k) := by rw [cell_of_heap hbox3]; rfl
      have y1 : w3.cell? ⟨w.heap.size, 1, none⟩ = some (.string s) := by rw [cell_of_heap hbox3]; rfl
      have y2 : w3.cell? ⟨w.heap.size, 2, none⟩ = some (.int .u64 n) := by rw [cell_of_heap hbox3]; rfl
      have y3 : w3.cell? ⟨w.heap.size, 3, none⟩ = some (.int .i64 a1) := by rw [cell_of_heap hbox3]; rfl
      have y4 : w3.cell? ⟨w.heap.size, 4, none⟩ = some (.int .i64 b1) := by rw [cell_of_heap hbox3]; rfl
      have y5 : w3.cell? ⟨w.heap.size, 5, none⟩ = some (.int .i64 c1) := by rw [cell_of_heap hbox3]; rfl
      obtain ⟨i0, hi0, hz0, hs0, hy0⟩ := rinfo_T
      have Hi0 := hid hi0
      have Hz0 := hid hz0
      have Hs0 := hid hs0
      have Hy0 := hid hy0
      have Hown := hid hown
      have Hb3 := hid hbw3
      have hlt3 : b < w3.heap.size := Nat.lt_of_lt_of_le hat'.lt hbw3.size
      have hbl : w.heap.size < w3.heap.size := (Array.getElem?_eq_some_iff.1 hbox3).1
      have Hne : Hid (∀ g, (Value.slice a' L.length cap').ownBlock = some g → g ≠ w.heap.size) := hid fun g e => by have := (hgb' g e).2.1; omega
      have Hnb : Hid (∀ g, (Value.slice a' L.length cap').ownBlock = some g → g ≠ b) := hid fun g e => (hgb' g e).1
      have hnbw : b ≠ w.heap.size := by have := hat'.lt; omega
      clear hi0 hz0 hs0 hy0 hown hbw3 hb13 hbox3 hat' hgb' hb3
      have hne3 := World.new_ne w3 ⟨b, 0, none⟩ x0
      go_region_law
        ((refine step_append_lies _ (by rfl) (.tmp 45) (.tmp 47) 129 (by rfl) 0 114 i0 (T.val zeroT) 6 56 (by kernel_rfl) Hi0.out Hz0.out Hs0.out Hy0.out rfl (by decide) (.slice a' L.length cap') L.length (cellsOf L) (by rfl) (Hown.out.alloc _) ⟨w3.heap.size, 0, none⟩ 1 1 (T.cells ⟨k, s, n, a1, b1, c1⟩) (by rfl) rfl (World.news_of_block (heap_alloc_new _ _)) (cells_one _) (by decide) (by simp only [maxLen]; omega) (by omega) (Nat.zero_le _) (w3.heap.size + 1) (by simp) ?_; intro g2 cap2 w5 hown5 hgrow5 hat5 hlt5; have z0 : w5.cell? ⟨b, 0, none⟩ = some (.slice a' L.length cap') := by { rw [hgrow5.cell_far _ (by simp; omega) (fun e => Hnb.out _ e.symm rfl)]; exact (((Below.refl w3.heap.size w3).alloc (Nat.le_refl _) _).cell (p := ⟨b, 0, none⟩) hlt3).trans x0 }; have zf : w5.frozen? ⟨b, 0, none⟩ = false := by { rw [hgrow5.frozen_far _ (by simp; omega) (fun e => Hnb.out _ e.symm rfl)]; exact (((Below.refl w3.heap.size w3).alloc (Nat.le_refl _) _).frozen (p := ⟨b, 0, none⟩) hlt3).trans xf }))
      all_goals
        clear y0 y1 y2 y3 y4 y5 x0 xf
        have Hown5 := hid hown5
        have Hgrow5 := hid hgrow5
        have Hat5 := hid hat5
        clear hown5 hgrow5 hat5
        go_wp2_with fail
        go_ret2
        exact ⟨rfl, rput_end Hok.out (Hb3.out.trans (Below.mono (Below.alloc (Below.refl w3.heap.size w3) (Nat.le_refl w3.heap.size) (.cells #[.int .i64 k, .string s, .int .u64 n, .int .i64 a1, .int .i64 b1, .int .i64 c1] 114)) Hb3.out.size)) Hh.out Hfb.out Hgb.out Hown5.out ⟨Hgrow5.out.os, Hgrow5.out.tape, Hgrow5.out.output, Hgrow5.out.size, Hgrow5.out.block⟩ (Hat5.out.imp id fun e => by rw [e]; simp) Hm.out Hi.out Hroom.out⟩

/-- THE DOCUMENT'S PUT: what it answers, and what the store then is. -/
theorem rput_calls {W w : World} {Rs : List Res} {b : Nat} {L : List T} {m : Int} (k : Int) (s : ByteArray) (n a b' c : Int) (h : Hd W w (RSto b L m :: Rs)) :
    Calls Try.prog 52 #[.pointer (some ⟨b, 0, none⟩), T.val ⟨k, s, n, a, b', c⟩] w fun e w' =>
      e = .returned (.tuple #[.int .i64 (put m L ⟨k, s, n, a, b', c⟩).1, .int .i64 (put m L ⟨k, s, n, a, b', c⟩).2.1]) ∧ Hd W w' (RSto b (put m L ⟨k, s, n, a, b', c⟩).2.2 m :: Rs) := by
  obtain ⟨a0, cap, hat⟩ := h.rsto
  by_cases hm : T.may L.length ⟨k, s, n, a, b', c⟩
  case neg =>
    have e : put m L ⟨k, s, n, a, b', c⟩ = (0, 1, L) := by unfold put; rw [if_neg hm]
    rw [e]
    exact (rput_no k s n a b' c hat hm).mono fun _ _ ⟨h1, h2⟩ => ⟨h1, h.still h2⟩
  cases hi : find ⟨k, s, n, a, b', c⟩ L with
  | some i =>
    have e : put m L ⟨k, s, n, a, b', c⟩ = ((i : Int) + 1, 0, L) := by unfold put; rw [if_pos hm, hi]
    rw [e]
    exact (rput_is k s n a b' c hat hm hi).mono fun _ _ ⟨h1, h2⟩ => ⟨h1, h.still h2⟩
  | none =>
    by_cases hfull : m ≤ L.length
    · have e : put m L ⟨k, s, n, a, b', c⟩ = (0, 4, L) := by unfold put; rw [if_pos hm, hi]; simp [hfull]
      rw [e]
      exact (rput_full k s n a b' c hat hm hi hfull).mono fun _ _ ⟨h1, h2⟩ => ⟨h1, h.still h2⟩
    · have e : put m L ⟨k, s, n, a, b', c⟩ = ((L.length : Int) + 1, 0, L ++ [⟨k, s, n, a, b', c⟩]) := by unfold put; rw [if_pos hm, hi]; simp [hfull]
      rw [e]
      obtain ⟨f, hR, hf, _, hclose⟩ := h.open
      refine (rput_new k s n a b' c hR hf hm hi (by omega)).mono fun _ w' ⟨h1, g, hg, hgi, hgn, g1, g2, g3, g4, g5⟩ => ⟨h1, ?_⟩
      exact hclose w' _ g hg hgi hgn g1 g2 g3 g4 g5
end Go.Proofs.Ytpcfmafokkffgaa
