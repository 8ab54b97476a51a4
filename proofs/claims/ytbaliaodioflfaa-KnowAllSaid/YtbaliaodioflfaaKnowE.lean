/-
  Walks through the document's package of layer 8: apart, makes. For every list of names and every store.
-/
import Derived.Test.YtbaliaodioflfaaKnowJ
namespace Go.Proofs.Ytbaliaodioflfaa
open Go.RowKit

set_option maxRecDepth 100000 in
set_option maxHeartbeats 16000000 in
theorem apart8_calls {ks : List Int} {ad ra : Option Addr} {n c rc b : Nat} {L : List T} {m : Int} {w : World} (x : Int) (h : IntsAt w ad ks) (hs : RStoAt w b L m ra rc) (hin : ∀ x ∈ ks, 1 ≤ x ∧ x ≤ L.length) (e : n = ks.length) (hm : n ≤ 4611686018427387904) :
    Calls Try.prog 84 #[.pointer (some ⟨b, 0, none⟩), .slice ad n c, .int .i64 x] w fun e w' => e = .returned (.bool (apartB L ks x)) ∧ Below w.heap.size w w' := by
  have E := hid e
  have H := hid h
  have HS := hid hs
  have HI := hid hin
  have hmx := hs.ok.m1
  have hlx := hs.ok.len
  clear e h hs hin
  go_enter Try.func84, Try.ntmps84
  go_wp2_with fail
  go_loopw [7] (fun i wr => ∃ j : Nat, j ≤ n ∧ i = .int .i64 j ∧ Below w.heap.size w wr ∧ Hid ((ks.take j).any (fun y => ((L.getD (y - 1).toNat zeroT).k == 11 && ((L.getD (y - 1).toNat zeroT).a == x || (L.getD (y - 1).toNat zeroT).b == x)) || (((L.getD (y - 1).toNat zeroT).k == 10 && (L.getD (y - 1).toNat zeroT).c == x) && decide ((L.getD (y - 1).toNat zeroT).a ∈ ks))) = false)) (fun i _ => n - (intOf i).toNat)
  case atStart => exact ⟨0, Nat.zero_le _, rfl, Below.refl _ _, hid (by simp)⟩
  case round =>
    obtain ⟨j, hj, rfl, hb, hno⟩ := hrel
    obtain ⟨wo, hwo⟩ : ∃ wo : World, wo = wr := ⟨_, rfl⟩
    rw [← hwo] at hb ⊢
    clear hwo wr
    by_cases hlt : j < n
    · have hd1 : decide ((j : Int) < (n : Int)) = true := by simp; omega
      have hd1' : decide (j < n) = true := by simp; omega
      have hjl : j < ks.length := by rw [← E.out]; exact hlt
      obtain ⟨y, hy⟩ : ∃ z, ks[j]? = some z := ⟨ks[j], List.getElem?_eq_getElem hjl⟩
      have hy2 := HI.out y (List.mem_of_getElem? hy)
      obtain ⟨q, rfl⟩ : ∃ q : Nat, y = (q : Int) + 1 := ⟨(y - 1).toNat, by omega⟩
      obtain ⟨g, o, rfl, hc⟩ := (H.out.later hb).cell (by omega)
      have c0 := hc j _ hy
      have Hy := hid hy
      have zj0 : (0 : Int) ≤ (j : Int) := by omega
      have zj1 : (j : Int) < (n : Int) := by omega
      have zq0 : (0 : Int) ≤ (q : Int) := by omega
      have zq1 : (q : Int) < (L.length : Int) := by omega
      have zq2 : q < L.length := by omega
      have hs := HS.out.later hb
      obtain ⟨⟨tk, ts, tn, ta, tb, tc⟩, ht⟩ : ∃ t, L[q]? = some t := ⟨L[q], List.getElem?_eq_getElem zq2⟩
      have hgd : L.getD (((q : Int) + 1 - 1).toNat) zeroT = ⟨tk, ts, tn, ta, tb, tc⟩ := by rw [show ((q : Int) + 1 - 1).toNat = q by omega, List.getD_eq_getElem?_getD, ht]; rfl
      have Hgd := hid hgd
      obtain ⟨rg, rfl, rlt, hcl⟩ := hs.cl q _ ht
      have s0 := hs.c0
      have d0 := hcl 0 _ rfl
      have d1 := hcl 1 _ rfl
      have d2 := hcl 2 _ rfl
      have d3 := hcl 3 _ rfl
      have d4 := hcl 4 _ rfl
      have d5 := hcl 5 _ rfl
      rw [Nat.add_zero] at d0
      have glt := World.block_lt_of_cell? wo _ c0
      have blt := World.block_lt_of_cell? wo _ s0
      have hw : IntKind.i64.wrap (q : Int) = q := IntWalk.i64_in _ (by omega)
      clear hs hcl hc hy ht hgd hy2 hjl
      go_wp2_with fail
      go_region
      have hb2 : Below w.heap.size w ((wo.alloc (.cells #[.int .i64 tk, .string ts, .int .u64 tn, .int .i64 ta, .int .i64 tb, .int .i64 tc] 122 (0, 0))).drew) := (hb.alloc hb.size _).drew
      have HB := hid hb2
      clear hb hb2 c0 s0 d0 d1 d2 d3 d4 d5 hw glt blt rlt
      by_cases k11 : tk = 11
      · subst k11
        by_cases h1 : ta = x
        · have f1 : (ta == x) = true := by simpa using h1
          clear h1
          have Hyes : Hid (apartB L ks x = true) := hid (List.any_eq_true.2 ⟨_, List.mem_of_getElem? Hy.out, by rw [Hgd.out]; simp [f1]⟩)
          go_wp2_with fail
          go_ret
          exact ⟨by rw [Hyes.out]; rfl, HB.out⟩
        · have f1 : (ta == x) = false := by simpa using h1
          clear h1
          by_cases h2 : tb = x
          · have f2 : (tb == x) = true := by simpa using h2
            clear h2
            have Hyes : Hid (apartB L ks x = true) := hid (List.any_eq_true.2 ⟨_, List.mem_of_getElem? Hy.out, by rw [Hgd.out]; simp [f2]⟩)
            go_wp2_with fail
            go_ret
            exact ⟨by rw [Hyes.out]; rfl, HB.out⟩
          · have f2 : (tb == x) = false := by simpa using h2
            clear h2
            have Hno := hid (any_step (p := fun y => ((L.getD (y - 1).toNat zeroT).k == 11 && ((L.getD (y - 1).toNat zeroT).a == x || (L.getD (y - 1).toNat zeroT).b == x)) || (((L.getD (y - 1).toNat zeroT).k == 10 && (L.getD (y - 1).toNat zeroT).c == x) && decide ((L.getD (y - 1).toNat zeroT).a ∈ ks))) Hy.out hno.out (by rw [Hgd.out]; simp [f1, f2]))
            clear hno Hy Hgd
            go_wp2_with fail
            go_roundw
            case rel => exact ⟨j + 1, by omega, by go_num, HB.out, Hno⟩
            case measure => simp [intOf]; omega
      · have f0 : (tk == 11) = false := by simpa using k11
        by_cases k10 : tk = 10
        · subst k10
          by_cases h3 : tc = x
          · have f3 : (tc == x) = true := by simpa using h3
            clear h3
            go_wp2_with fail
            refine (in8_calls ta (H.out.later HB.out) E.out hm).mono ?_
            by_cases hta : ta ∈ ks
            · rw [show decide (ta ∈ ks) = true from decide_eq_true hta]
              rintro e w' ⟨rfl, rfl⟩
              have Hyes : Hid (apartB L ks x = true) := hid (List.any_eq_true.2 ⟨_, List.mem_of_getElem? Hy.out, by rw [Hgd.out]; simp [f3, hta]⟩)
              go_wp2_with fail
              go_ret
              exact ⟨by rw [Hyes.out]; rfl, HB.out⟩
            · rw [show decide (ta ∈ ks) = false from decide_eq_false hta]
              rintro e w' ⟨rfl, rfl⟩
              have Hno := hid (any_step (p := fun y => ((L.getD (y - 1).toNat zeroT).k == 11 && ((L.getD (y - 1).toNat zeroT).a == x || (L.getD (y - 1).toNat zeroT).b == x)) || (((L.getD (y - 1).toNat zeroT).k == 10 && (L.getD (y - 1).toNat zeroT).c == x) && decide ((L.getD (y - 1).toNat zeroT).a ∈ ks))) Hy.out hno.out (by rw [Hgd.out]; simp [hta]))
              clear hno Hy Hgd
              go_wp2_with fail
              go_roundw
              case rel => exact ⟨j + 1, by omega, by go_num, HB.out, Hno⟩
              case measure => simp [intOf]; omega
          · have f3 : (tc == x) = false := by simpa using h3
            clear h3
            have Hno := hid (any_step (p := fun y => ((L.getD (y - 1).toNat zeroT).k == 11 && ((L.getD (y - 1).toNat zeroT).a == x || (L.getD (y - 1).toNat zeroT).b == x)) || (((L.getD (y - 1).toNat zeroT).k == 10 && (L.getD (y - 1).toNat zeroT).c == x) && decide ((L.getD (y - 1).toNat zeroT).a ∈ ks))) Hy.out hno.out (by rw [Hgd.out]; simp [f3]))
            clear hno Hy Hgd
            go_wp2_with fail
            go_roundw
            case rel => exact ⟨j + 1, by omega, by go_num, HB.out, Hno⟩
            case measure => simp [intOf]; omega
        · have f4 : (tk == 10) = false := by simpa using k10
          have Hno := hid (any_step (p := fun y => ((L.getD (y - 1).toNat zeroT).k == 11 && ((L.getD (y - 1).toNat zeroT).a == x || (L.getD (y - 1).toNat zeroT).b == x)) || (((L.getD (y - 1).toNat zeroT).k == 10 && (L.getD (y - 1).toNat zeroT).c == x) && decide ((L.getD (y - 1).toNat zeroT).a ∈ ks))) Hy.out hno.out (by rw [Hgd.out]; simp [f0, f4]))
          clear hno Hy Hgd
          go_wp2_with fail
          go_roundw
          case rel => exact ⟨j + 1, by omega, by go_num, HB.out, Hno⟩
          case measure => simp [intOf]; omega
    · have hd1 : decide ((j : Int) < (n : Int)) = false := by simp; omega
      have hd1' : decide (j < n) = false := by simp; omega
      have Hno : Hid (apartB L ks x = false) := hid (by have := hno.out; rwa [List.take_of_length_le (by rw [← E.out]; omega)] at this)
      clear hlt
      go_wp2_with fail
      go_ret
      exact ⟨by rw [Hno.out]; rfl, hb⟩

set_option maxRecDepth 100000 in
set_option maxHeartbeats 64000000 in
theorem makes8_calls {ks : List Int} {ad ra : Option Addr} {n cp rc bb : Nat} {L : List T} {m : Int} {w : World} (dh kem : Bool) (k : Int) (s : ByteArray) (nn a b c : Int) (g : Good L) (hk0 : 1 ≤ k) (hk1 : k ≤ 11) (h : IntsAt w ad ks) (hs : RStoAt w bb L m ra rc) (hin : ∀ x ∈ ks, 1 ≤ x ∧ x ≤ (L.length : Int)) (e : n = ks.length) (hm : n ≤ 4611686018427387904) :
    Calls Try.prog 83 #[.pointer (some ⟨bb, 0, none⟩), .slice ad n cp, .bool dh, .bool kem, .agg #[.int .i64 k, .string s, .int .u64 nn, .int .i64 a, .int .i64 b, .int .i64 c]] w fun e w' => e = .returned (.bool (mkB L dh kem (inB ks) ⟨k, s, nn, a, b, c⟩)) ∧ Below w.heap.size w w' := by
  have E := hid e
  have H := hid h
  have HS := hid hs
  have HI := hid hin
  have HG := hid g
  clear e h hs hin g
  go_enter Try.func83, Try.ntmps83
  go_wp2_with fail
  obtain ⟨w2, hw2⟩ : ∃ w2, w.alloc (.cells #[.int .i64 k, .string s, .int .u64 nn, .int .i64 a, .int .i64 b, .int .i64 c] 122 (0, 0)) = w2 := ⟨_, rfl⟩
  have hbox : w2.heap[w.heap.size]? = some (.cells #[.int .i64 k, .string s, .int .u64 nn, .int .i64 a, .int .i64 b, .int .i64 c] 122 (0, 0)) := by rw [← hw2]; exact heap_at rfl
  have hbw : Below w.heap.size w w2 := by rw [← hw2]; exact (Below.refl _ _).alloc (Nat.le_refl _) _
  rw [hw2]
  clear hw2
  have d0 : ∀ x : Later w2, x.w.cell? ⟨w.heap.size, 0, none⟩ = some (.int .i64 k) := fun x => x.cell (by rw [cell_of_heap hbox]; rfl)
  have d3 : ∀ x : Later w2, x.w.cell? ⟨w.heap.size, 3, none⟩ = some (.int .i64 a) := fun x => x.cell (by rw [cell_of_heap hbox]; rfl)
  have d4 : ∀ x : Later w2, x.w.cell? ⟨w.heap.size, 4, none⟩ = some (.int .i64 b) := fun x => x.cell (by rw [cell_of_heap hbox]; rfl)
  have d5 : ∀ x : Later w2, x.w.cell? ⟨w.heap.size, 5, none⟩ = some (.int .i64 c) := fun x => x.cell (by rw [cell_of_heap hbox]; rfl)
  clear hbox
  obtain ⟨pa, Epa⟩ : ∃ p, inB ks a = p := ⟨_, rfl⟩
  obtain ⟨pb, Epb⟩ : ∃ p, inB ks b = p := ⟨_, rfl⟩
  have EA := hid Epa
  have EB := hid Epb
  clear Epa Epb
  have H2 := hid (H.out.later hbw)
  have S2 := hid (HS.out.later hbw)
  have Hia : Hid (∀ x : Later w2, Calls Try.prog 82 #[.slice ad n cp, .int .i64 a] x.w fun e w'' => e = .returned (.bool pa) ∧ ∃ y : Later w2, w'' = y.w) := hid fun x => by rw [← EA.out]; exact Calls.calm_same (in8_calls a (H2.out.later x.below) E.out hm)
  have Hib : Hid (∀ x : Later w2, Calls Try.prog 82 #[.slice ad n cp, .int .i64 b] x.w fun e w'' => e = .returned (.bool pb) ∧ ∃ y : Later w2, w'' = y.w) := hid fun x => by rw [← EB.out]; exact Calls.calm_same (in8_calls b (H2.out.later x.below) E.out hm)
  refine wp_region_calm (by kernel_rfl) (by kernel_rfl) ?_
  repeat (go_big_quiet_step ((first | (go_at_call 82; with_reducible exact Hia.out _) | (go_at_call 82; with_reducible exact Hib.out _))))
  refine wpQuiet_nil ?_
  intro w3 hw3
  obtain ⟨⟨w3, hb3⟩, rfl⟩ := hw3
  have c0 : w3.cell? ⟨w.heap.size, 0, none⟩ = some (.int .i64 k) := d0 ⟨w3, hb3⟩
  have c3 : w3.cell? ⟨w.heap.size, 3, none⟩ = some (.int .i64 a) := d3 ⟨w3, hb3⟩
  have c4 : w3.cell? ⟨w.heap.size, 4, none⟩ = some (.int .i64 b) := d4 ⟨w3, hb3⟩
  have c5 : w3.cell? ⟨w.heap.size, 5, none⟩ = some (.int .i64 c) := d5 ⟨w3, hb3⟩
  have H3 := hid (H2.out.later hb3)
  have S3 := hid (S2.out.later hb3)
  have HW := hid (hbw.trans (hb3.mono hbw.size))
  clear d0 d3 d4 d5 hbw hb3 Hia Hib H2 S2
  obtain ⟨pc, Epc⟩ : ∃ p, inB ks c = p := ⟨_, rfl⟩
  obtain ⟨pp, Epp⟩ : ∃ p, inB ks (nm L (pubT a)) = p := ⟨_, rfl⟩
  obtain ⟨pq, Epq⟩ : ∃ p, inB ks (nm L (pubT b)) = p := ⟨_, rfl⟩
  obtain ⟨pu, Epu⟩ : ∃ p, inB ks (nm L (kpuT a)) = p := ⟨_, rfl⟩
  obtain ⟨px, Epx⟩ : ∃ p, inB ks (nm L (boxT a b)) = p := ⟨_, rfl⟩
  have M : Hid (mkB L dh kem (inB ks) ⟨k, s, nn, a, b, c⟩ = if k = 1 then true else if k = 3 ∨ k = 5 ∨ k = 9 then pa else if k = 8 ∨ k = 11 then pa && pb else if k = 10 then (pa && pb) && pc else if k = 4 then (pa && (pb || pq)) || (pb && (pa || pp)) || (dh && pp && pq) else if k = 6 then pb && (pa || pu) else if k = 7 then (pb && (pa || pu)) || (px && (kem || pa)) else false) := hid (by rw [← EA.out, ← EB.out, ← Epc, ← Epp, ← Epq, ← Epu, ← Epx]; rfl)
  have EC := hid Epc
  have EP : Hid (ofB L ks 3 a 0 = pp) := hid ((ofB_pub a HG.out HI.out).trans Epp)
  have EQ : Hid (ofB L ks 3 b 0 = pq) := hid ((ofB_pub b HG.out HI.out).trans Epq)
  have EU : Hid (ofB L ks 5 a 0 = pu) := hid ((ofB_kpu a HG.out HI.out).trans Epu)
  have EX : Hid (ofB L ks 6 a b = px) := hid ((ofB_box a b HG.out HI.out).trans Epx)
  clear Epc Epp Epq Epu Epx
  have hk : k = 1 ∨ k = 2 ∨ k = 3 ∨ k = 5 ∨ k = 9 ∨ k = 8 ∨ k = 11 ∨ k = 10 ∨ k = 4 ∨ k = 6 ∨ k = 7 := by omega
  clear hk0 hk1
  rcases hk with rfl | rfl | rfl | rfl | rfl | rfl | rfl | rfl | rfl | rfl | rfl
  · go_wp2_with fail
    go_ret
    exact ⟨by rw [M.out]; rfl, HW.out⟩
  · go_wp2_with fail
    go_ret
    exact ⟨by rw [M.out]; rfl, HW.out⟩
  · go_wp2_with fail
    go_ret
    exact ⟨by rw [M.out]; rfl, HW.out⟩
  · go_wp2_with fail
    go_ret
    exact ⟨by rw [M.out]; rfl, HW.out⟩
  · go_wp2_with fail
    go_ret
    exact ⟨by rw [M.out]; rfl, HW.out⟩
  · cases pa <;> cases pb
    all_goals
      go_wp2_with fail
      go_ret
      exact ⟨by rw [M.out]; rfl, HW.out⟩
  · cases pa <;> cases pb
    all_goals
      go_wp2_with fail
      go_ret
      exact ⟨by rw [M.out]; rfl, HW.out⟩
  · cases pa
    · go_wp2_with fail
      go_ret
      exact ⟨by rw [M.out]; rfl, HW.out⟩
    · cases pb
      · go_wp2_with fail
        go_ret
        exact ⟨by rw [M.out]; rfl, HW.out⟩
      · go_wp2_with fail
        refine (in8_calls c H3.out E.out hm).mono ?_
        rw [show decide (c ∈ ks) = pc from EC.out]
        rintro e w4 ⟨rfl, rfl⟩
        cases pc
        all_goals
          go_wp2_with fail
          go_ret
          exact ⟨by rw [M.out]; rfl, HW.out⟩
  · have Hop : Hid (∀ x : Later w3, Calls Try.prog 103 #[.pointer (some ⟨bb, 0, none⟩), .slice ad n cp, .int .i64 3, .int .i64 a, .int .i64 0] x.w fun e w'' => e = .returned (.bool pp) ∧ ∃ y : Later w3, w'' = y.w) := hid fun x => by rw [← EP.out]; exact Calls.calm (of8_calls 3 a 0 (H3.out.later x.below) (S3.out.later x.below) HI.out E.out hm)
    have Hoq : Hid (∀ x : Later w3, Calls Try.prog 103 #[.pointer (some ⟨bb, 0, none⟩), .slice ad n cp, .int .i64 3, .int .i64 b, .int .i64 0] x.w fun e w'' => e = .returned (.bool pq) ∧ ∃ y : Later w3, w'' = y.w) := hid fun x => by rw [← EQ.out]; exact Calls.calm (of8_calls 3 b 0 (H3.out.later x.below) (S3.out.later x.below) HI.out E.out hm)
    have d3 : ∀ x : Later w3, x.w.cell? ⟨w.heap.size, 3, none⟩ = some (.int .i64 a) := fun x => x.cell c3
    have d4 : ∀ x : Later w3, x.w.cell? ⟨w.heap.size, 4, none⟩ = some (.int .i64 b) := fun x => x.cell c4
    go_wp2_with fail
    refine wp_region_calm (by kernel_rfl) (by kernel_rfl) ?_
    repeat (go_big_quiet_step ((first | (go_at_call 103; with_reducible exact Hop.out _) | (go_at_call 103; with_reducible exact Hoq.out _))))
    refine wpQuiet_nil ?_
    intro w4 hw4
    obtain ⟨⟨w4, hb4⟩, rfl⟩ := hw4
    replace HW := hid (HW.out.trans (hb4.mono HW.out.size))
    clear d3 d4 c0 c3 c4 c5 hb4 Hop Hoq H3 S3
    cases pa <;> cases pb <;> cases pp <;> cases pq <;> cases dh
    all_goals
      go_wp2_with fail
      go_ret
      exact ⟨by rw [M.out]; rfl, HW.out⟩
  · cases pb
    · go_wp2_with fail
      go_ret
      exact ⟨by rw [M.out]; rfl, HW.out⟩
    · cases pa
      · go_wp2_with fail
        refine (of8_calls 5 a 0 H3.out S3.out HI.out E.out hm).mono ?_
        rw [EU.out]
        rintro e w4 ⟨rfl, hb4⟩
        replace HW := hid (HW.out.trans (hb4.mono HW.out.size))
        cases pu
        all_goals
          go_wp2_with fail
          go_ret
          exact ⟨by rw [M.out]; rfl, HW.out⟩
      · go_wp2_with fail
        go_ret
        exact ⟨by rw [M.out]; rfl, HW.out⟩
  · go_wp2_with fail
    refine (of8_calls 6 a b H3.out S3.out HI.out E.out hm).mono ?_
    rw [EX.out]
    rintro e w4 ⟨rfl, hb4⟩
    replace c3 := (hb4.cell (World.block_lt_of_cell? _ _ c3)).trans c3
    replace c4 := (hb4.cell (World.block_lt_of_cell? _ _ c4)).trans c4
    replace H3 := hid (H3.out.later hb4)
    replace S3 := hid (S3.out.later hb4)
    replace HW := hid (HW.out.trans (hb4.mono HW.out.size))
    clear hb4 c0 c5
    cases pb
    · cases pa <;> cases px <;> cases kem
      all_goals
        go_wp2_with fail
        go_ret
        exact ⟨by rw [M.out]; rfl, HW.out⟩
    · cases pa
      · go_wp2_with fail
        refine (of8_calls 5 a 0 H3.out S3.out HI.out E.out hm).mono ?_
        rw [EU.out]
        rintro e w5 ⟨rfl, hb5⟩
        replace HW := hid (HW.out.trans (hb5.mono HW.out.size))
        cases pu <;> cases px <;> cases kem
        all_goals
          go_wp2_with fail
          go_ret
          exact ⟨by rw [M.out]; rfl, HW.out⟩
      · cases px <;> cases kem
        all_goals
          go_wp2_with fail
          go_ret
          exact ⟨by rw [M.out]; rfl, HW.out⟩

end Go.Proofs.Ytbaliaodioflfaa
