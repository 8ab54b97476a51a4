/-
  Walks through the document's package of layer 2: (*Store).Depth. For every store and every name.
-/
import Derived.Test.YtfhpgcgiogmlgaaRoom
import Derived.Test.YtfhpgcgiogmlgaaPureD
import Derived.Test.YtfhpgcgiogmlgaaReg
import Derived.Deep.AppendLies
namespace Go.Proofs.Ytfhpgcgiogmlgaa
open Go.RowKit

set_option maxHeartbeats 400000 in
theorem rdepth_low {b : Nat} {x : Int} {w : World} (hx : x < 1) :
    Calls Try.prog 22 #[.pointer (some ⟨b, 0, none⟩), .int .i64 x] w fun e w' => e = .returned (.int .i64 0) ∧ w = w' := by
  have hd : decide (x < 1) = true := by simpa using hx
  go_enter Try.func22, Try.ntmps22
  go_wp2
  go_ret
  exact ⟨rfl, rfl⟩

set_option maxHeartbeats 400000 in
theorem rdepth_high {b : Nat} {L : List T} {m : Int} {a : Option Addr} {cap : Nat} {x : Int} {w : World} (h : RStoAt w b L m a cap) (hx : (L.length : Int) < x) (h1 : ¬ x < 1) :
    Calls Try.prog 22 #[.pointer (some ⟨b, 0, none⟩), .int .i64 x] w fun e w' => e = .returned (.int .i64 0) ∧ w = w' := by
  have hd : decide (x < 1) = false := by simpa using h1
  have hd2 : decide ((L.length : Int) < x) = true := by simpa using hx
  have h0 := h.c0
  have h1 : L.length ≤ 1048576 := by have := h.ok.m1; have := h.ok.len; omega
  clear h
  go_enter Try.func22, Try.ntmps22
  go_wp2
  go_ret
  exact ⟨rfl, rfl⟩

/-- How deep the first ones are. -/
theorem depths_take {L : List T} {j : Nat} {t : T} (h : L[j]? = some t) : depths (L.take (j + 1)) = depths (L.take j) ++ [deepest (depths (L.take j)) t.parts + 1] := by
  have hj := (List.getElem?_eq_some_iff.1 h).1
  rw [List.take_succ_eq_append_getElem hj, depths_snoc]
  rw [(List.getElem?_eq_some_iff.1 h).2]

theorem deepest_take {ds : List Int} {ps : List Int} {k : Nat} (h : k < ps.length) : deepest ds (ps.take (k + 1)) = max (deepest ds (ps.take k)) (ds.getD (ps.getD k 0).toNat 0) := by
  rw [List.take_succ_eq_append_getElem h]
  simp only [deepest, List.foldl_append, List.foldl_cons, List.foldl_nil]
  simp [List.getD, List.getElem?_eq_getElem h]

theorem depths_take_get {L : List T} {j : Nat} (hj : j ≤ L.length) (i : Nat) (hi : i ≤ j) : (depths (L.take j)).getD i 0 = (depths L).getD i 0 := by
  obtain ⟨E, hE⟩ := depths_ext (L.take j) (L.drop j)
  rw [List.take_append_drop] at hE
  rw [hE]
  have : (depths (L.take j)).length = j + 1 := by rw [depths_length]; simp; omega
  simp only [List.getD]
  rw [List.getElem?_append_left (by omega)]

theorem ints_row {w : World} {base : Nat} {a : Addr} {n cap : Nat} {xs : List Int} (h : w.ownsRow base 3 1 (.slice (some a) n cap) n (ints xs)) {i : Nat} (hi : i < xs.length) : ∃ g, a = ⟨g, 0, none⟩ ∧ w.cell? ⟨g, i, none⟩ = some (.int .i64 (xs.getD i 0)) := by
  obtain ⟨hl, ⟨h, _⟩ | ⟨g, c, cur, hv, _, hc, _, _, _, ht⟩⟩ := h
  · cases h
  simp only [Value.slice.injEq, Option.some.injEq] at hv
  refine ⟨g, hv.1, ?_⟩
  rw [cell_of_heap hc, ← Array.getElem?_toList]
  refine get_of_take ht ?_
  simp [ints, List.getElem?_eq_getElem hi, List.getD]

theorem grown_below {B : Nat} {w X Y : World} {v : Value} (hb : Below B w X) (hB : B ≤ X.heap.size) (hg : X.grownBy Y v.ownBlock) (hv : ∀ g, v.ownBlock = some g → B ≤ g) : Below B w Y :=
  ⟨hg.os.trans hb.os, hg.tape.trans hb.tape, hg.output.trans hb.output, Nat.le_trans hb.size hg.size, fun k hk => (hg.block k (by omega) (fun e => by have := hv k e.symm; omega)).trans (hb.block k hk)⟩

set_option maxRecDepth 100000 in
set_option maxHeartbeats 8000000 in
theorem rdepth_mid {b : Nat} {L : List T} {m : Int} {a : Option Addr} {cap : Nat} {N : Nat} {w : World} (h : RStoAt w b L m a cap) (h1 : 1 ≤ N) (h2 : N ≤ L.length) :
    Calls Try.prog 22 #[.pointer (some ⟨b, 0, none⟩), .int .i64 (N : Int)] w fun e w' => e = .returned (.int .i64 ((depths L).getD N 0)) ∧ Below w.heap.size w w' := by
  have hl : L.length ≤ 1048576 := by have := h.ok.m1; have := h.ok.len; omega
  have Hs := hid h
  have c0 := h.c0
  have d1 : decide ((N : Int) < 1) = false := by simp; omega
  have d1' : decide (N < 1) = false := by simp; omega
  have d2 : decide ((L.length : Int) < (N : Int)) = false := by simp; omega
  have d2' : decide (L.length < N) = false := by simp; omega
  obtain ⟨i0, hi0, hz0, hs0, hy0⟩ := info_int
  have Hi0 := hid hi0
  have Hz0 := hid hz0
  have Hs0 := hid hs0
  have Hy0 := hid hy0
  clear h hi0 hz0 hs0 hy0
  go_enter Try.func22, Try.ntmps22
  go_wp2_with fail
  clear c0
  go_loopw [5, 6] (fun v i wr => ∃ j g c : Nat, j ≤ N ∧ i = .int .i64 j ∧ v = .slice (some ⟨g, 0, none⟩) (j + 1) c ∧ Hid (w.heap.size ≤ g ∧ g < wr.heap.size ∧ wr.ownsRow 0 3 1 (.slice (some ⟨g, 0, none⟩) (j + 1) c) (j + 1) (ints (depths (L.take j)))) ∧ Hid (Below w.heap.size w wr)) (fun _ i _ => N - (intOf i).toNat)
  case atStart => exact ⟨0, w.heap.size, 1, Nat.zero_le _, rfl, rfl, hid ⟨Nat.le_refl _, by simp, by simp [ints, depths], .inr ⟨w.heap.size, 1, #[.int .i64 0], rfl, Nat.zero_le _, heap_at rfl, by omega, by decide, rfl, rfl⟩⟩, hid ((Below.refl _ _).alloc (Nat.le_refl _) _)⟩
  case round =>
    obtain ⟨j, g, c, hj, rfl, rfl, Ho, Hb⟩ := hrel
    have hs := Hs.out.later Hb.out
    by_cases hlt : j < N
    · have d3 : decide (j < N) = true := by simpa using hlt
      obtain ⟨t, ht⟩ : ∃ t, L[j]? = some t := ⟨L[j]'(by omega), List.getElem?_eq_getElem _⟩
      obtain ⟨gl, rfl, hgl, hc⟩ := hs.cl j t ht
      have c0 := hs.c0
      have hdt := depths_take ht
      have hpr : ∀ p ∈ t.parts, 1 ≤ p ∧ p ≤ (j : Int) := (hs.ok.good.may j t ht).2.2.2.2.2
      obtain ⟨k, s, n, a1, b1, c1⟩ := t
      have g0 := hc 0 _ rfl
      have g1 := hc 1 _ rfl
      have g2 := hc 2 _ rfl
      have g3 := hc 3 _ rfl
      have g4 := hc 4 _ rfl
      have g5 := hc 5 _ rfl
      simp only [Nat.add_zero] at g0
      have hj0 : (0 : Int) ≤ (j : Int) := by omega
      have hj1 : (j : Int) < (L.length : Int) := by omega
      have Hdt := hid hdt
      have Hpr := hid hpr
      clear hs hc ht hdt hpr hgl
      go_wp2_with fail
      refine (rparts_calls k s n a1 b1 c1 _).mono ?_
      rintro e w2 ⟨gp, rfl, hb2, q0, q1, q2, hgp⟩
      have hall : ∀ r : Nat, r < (T.parts ⟨k, s, n, a1, b1, c1⟩).length → w2.cell? ⟨gp, r, none⟩ = some (.int .i64 ((T.parts ⟨k, s, n, a1, b1, c1⟩).getD r 0)) := fun r hr => by
        have h3 := many_le k
        have hr' : r < many k := by rw [parts_length] at hr; exact hr
        have e : (T.parts ⟨k, s, n, a1, b1, c1⟩).getD r 0 = [a1, b1, c1].getD r 0 := by
          simp only [T.parts, List.getD, List.getElem?_take, hr', if_true]
        rw [e]
        match r, (show r < 3 by omega) with
        | 0, _ => exact q0
        | 1, _ => exact q1
        | 2, _ => exact q2
      have Hall := hid hall
      have Hpl : Hid (many k = (T.parts ⟨k, s, n, a1, b1, c1⟩).length) := hid (parts_length ⟨k, s, n, a1, b1, c1⟩).symm
      have hq3 := many_le k
      have Hb2 := hid (Hb.out.trans (hb2.mono Hb.out.size))
      have Ho2 : Hid (w.heap.size ≤ g ∧ g < w2.heap.size ∧ w2.ownsRow 0 3 1 (.slice (some ⟨g, 0, none⟩) (j + 1) c) (j + 1) (ints (depths (L.take j)))) := hid ⟨Ho.out.1, Nat.lt_of_lt_of_le Ho.out.2.1 hb2.size, own_keep Ho.out.2.2 fun g' e => by
        simp only [Value.ownBlock, Option.some.injEq] at e
        subst e
        exact hb2.block _ Ho.out.2.1⟩
      clear hb2 q0 q1 q2 hgp hall g0 g1 g2 g3 g4 g5 c0 Ho Hb
      obtain ⟨ps, hps⟩ : ∃ ps, T.parts ⟨k, s, n, a1, b1, c1⟩ = ps := ⟨_, rfl⟩
      rw [hps] at Hall Hpl Hdt Hpr
      clear hps
      generalize many k = q at *
      have hDl : (depths (L.take j)).length = j + 1 := by rw [depths_length]; simp; omega
      have hDr := deepest_range (L := L.take j)
      have hDr' : ∀ ps, 0 ≤ deepest (depths (L.take j)) ps ∧ deepest (depths (L.take j)) ps ≤ 1048576 := fun ps => by have := hDr ps; have := List.length_take_le j L; omega
      generalize depths (L.take j) = D at *
      have HDl := hid hDl
      have HDr := hid hDr'
      clear hDl hDr hDr'
      go_wp2_with fail
      go_loop [7, 9] (fun d i => ∃ r : Nat, r ≤ q ∧ i = .int .i64 r ∧ d = .int .i64 (deepest D (ps.take r))) (fun _ i => q - (intOf i).toNat)
      case atStart => exact ⟨0, Nat.zero_le _, rfl, rfl⟩
      case round =>
        obtain ⟨r, hr, rfl, rfl⟩ := hrel
        obtain ⟨x1, x2⟩ := HDr.out (ps.take r)
        by_cases hrq : r < q
        · have e1 : decide (r < q) = true := by simpa using hrq
          have hrl : r < ps.length := by rw [← Hpl.out]; exact hrq
          have c0 := Hall.out r hrl
          have ht := deepest_take (ds := D) hrl
          obtain ⟨p1, p2⟩ := Hpr.out (ps.getD r 0) (by rw [List.getD, List.getElem?_eq_getElem hrl]; exact List.getElem_mem _)
          obtain ⟨p, hp⟩ : ∃ p : Nat, ps.getD r 0 = (p : Int) := ⟨(ps.getD r 0).toNat, by omega⟩
          rw [hp] at c0 ht p1 p2
          obtain ⟨g', he, c1⟩ := ints_row Ho2.out.2.2 (i := p) (by rw [HDl.out]; omega)
          simp only [Addr.mk.injEq, and_true] at he
          obtain ⟨rfl, _⟩ : g = g' ∧ True := ⟨he, trivial⟩
          rw [Int.toNat_natCast] at ht
          generalize hdd : D.getD p 0 = dd at *
          have Ht := hid ht
          have hr0 : (0 : Int) ≤ (r : Int) := by omega
          have hr1 : (r : Int) < (q : Int) := by omega
          have hp0 : (0 : Int) ≤ (p : Int) := by omega
          have hp1 : (p : Int) < (j : Int) + 1 := by omega
          have hp2 : p < j + 1 := by omega
          clear hrl ht hp hdd he
          generalize hm : deepest D (ps.take r) = m at *
          clear hm
          rcases Int.lt_trichotomy m dd with hlt' | rfl | hgt'
          · have f1 : decide (m < dd) = true := by simpa using hlt'
            have f2 : decide (dd < m) = false := by simp; omega
            have f3 : decide (dd ≤ m) = false := by simp; omega
            go_wp2_with fail
            all_goals
              go_round
              case rel => exact ⟨r + 1, by omega, by go_num, by rw [Ht.out]; first | rfl | (rw [Int.max_eq_right (by omega)])⟩
              case measure => simp [intOf]; omega
          · go_wp2_with fail
            all_goals
              go_round
              case rel => exact ⟨r + 1, by omega, by go_num, by rw [Ht.out]; first | rfl | (rw [Int.max_self])⟩
              case measure => simp [intOf]; omega
          · have f1 : decide (m < dd) = false := by simp; omega
            have f2 : decide (dd < m) = true := by simpa using hgt'
            have f3 : decide (m ≤ dd) = false := by simp; omega
            go_wp2_with fail
            all_goals
              go_round
              case rel => exact ⟨r + 1, by omega, by go_num, by rw [Ht.out]; first | rfl | (rw [Int.max_eq_left (by omega)])⟩
              case measure => simp [intOf]; omega
        · have e1 : decide (r < q) = false := by simpa using hrq
          have hre : ps.take r = ps := List.take_of_length_le (by rw [← Hpl.out]; omega)
          rw [hre] at x1 x2 ⊢
          have Hre := hid hre
          clear hre
          obtain ⟨mm, hmm⟩ : ∃ mm, deepest D ps = mm := ⟨_, rfl⟩
          rw [hmm] at x1 x2 Hdt ⊢
          clear hmm
          go_wp2_with (at_builtin; refine wpList_append_lies _ rfl (.tmp 50) (.tmp 53) 45 rfl 0 3 i0 (.int .i64 0) 1 8 (by kernel_rfl) Hi0.out Hz0.out Hs0.out Hy0.out rfl (by decide) (.slice (some ⟨g, 0, none⟩) (j + 1) c) (j + 1) (ints D) rfl (Ho2.out.2.2.alloc _) ⟨w2.heap.size, 0, none⟩ 1 1 [.int .i64 (mm + 1)] rfl rfl (World.news_of_block (heap_alloc_new _ _)) (by simp [Value.oneCell']) (by decide) (by simp only [maxLen]; omega) (by omega) (Nat.zero_le _) (w2.heap.size + 1) (by simp) ?_; intro g3 cap3 w5 hown5 hgrow5 hat5 hlt5)
          have hbX : Below w.heap.size w (w2.alloc (.cells #[.int .i64 (mm + 1)] 3)) := Hb2.out.trans (((Below.refl _ _).alloc (Nat.le_refl _) _).mono Hb2.out.size)
          have hb5 := hid (grown_below hbX hbX.size hgrow5 (fun g' e => by simp only [Value.ownBlock, Option.some.injEq] at e; subst e; exact Ho2.out.1))
          have ho5 : Hid (w.heap.size ≤ g3 ∧ g3 < w5.heap.size ∧ w5.ownsRow 0 3 1 (.slice (some ⟨g3, 0, none⟩) (j + 1 + 1) cap3) (j + 1 + 1) (ints (depths (L.take (j + 1))))) := hid ⟨by
              rcases hat5 with e | e
              · simp only [Value.ownBlock, Option.some.injEq] at e; subst e; exact Ho2.out.1
              · have := Hb2.out.size; omega, hlt5, by rw [Hdt.out]; simpa [ints] using hown5⟩
          clear hown5 hgrow5 hat5 hlt5 hbX
          go_wp2_with fail
          go_roundw
          case rel => exact ⟨j + 1, g3, cap3, by omega, by go_num, rfl, ho5, hb5⟩
          case measure => simp [intOf]; omega
    · obtain rfl : j = N := by omega
      have d3 : decide (j < j) = false := by simp
      obtain ⟨g', he, c1⟩ := ints_row Ho.out.2.2 (i := j) (by rw [depths_length]; simp; omega)
      simp only [Addr.mk.injEq, and_true] at he
      obtain ⟨rfl, _⟩ : g = g' ∧ True := ⟨he, trivial⟩
      rw [depths_take_get h2 j (Nat.le_refl _)] at c1
      obtain ⟨dd, hdd⟩ : ∃ dd, (depths L).getD j 0 = dd := ⟨_, rfl⟩
      rw [hdd] at c1
      have Hdd := hid hdd
      have hj0 : (0 : Int) ≤ (j : Int) := by omega
      have hj1 : (j : Int) < (j : Int) + 1 := by omega
      clear hs he hdd
      go_wp2_with fail
      go_ret
      rw [Hdd.out]
      exact ⟨rfl, Hb.out⟩

theorem rdepth_calls {b : Nat} {L : List T} {m : Int} {a : Option Addr} {cap : Nat} (x : Int) {w : World} (h : RStoAt w b L m a cap) :
    Calls Try.prog 22 #[.pointer (some ⟨b, 0, none⟩), .int .i64 x] w fun e w' => e = .returned (.int .i64 (depth L x)) ∧ Below w.heap.size w w' := by
  by_cases h1 : x < 1
  · rw [depth_out (.inl h1)]
    exact (rdepth_low h1).mono fun _ _ ⟨e, hw⟩ => ⟨e, hw ▸ Below.refl _ _⟩
  by_cases h2 : (L.length : Int) < x
  · rw [depth_out (.inr h2)]
    exact (rdepth_high h h2 h1).mono fun _ _ ⟨e, hw⟩ => ⟨e, hw ▸ Below.refl _ _⟩
  obtain ⟨N, rfl⟩ : ∃ N : Nat, x = (N : Int) := ⟨x.toNat, by omega⟩
  have e : depth L (N : Int) = (depths L).getD N 0 := by unfold depth; rw [if_pos (by omega)]; rfl
  rw [e]
  exact rdepth_mid h (by omega) (by omega)
end Go.Proofs.Ytfhpgcgiogmlgaa
