/-
  SkipBounds returns true, and writes nothing that was there. For every input.
-/
import Derived.Test.YtbaliaodioflfaaSkipT
import Derived.Test.YtbaliaodioflfaaArgsC
namespace Go.Proofs.Ytbaliaodioflfaa
open Go.RowKit

theorem kput_cases {es E2 : List En} {e g : En} {b : Bool} (hr : Rises es) (h4 : es.length ≤ 4) (hk : kPut es e = (E2, g, b)) :
    (b = false ∧ g = En.zero ∧ E2 = ins es e ∧ E2.length ≤ 4) ∨ (b = true ∧ ins es e = g :: E2 ∧ E2.length = 4) := by
  rw [kPut_eq hr h4] at hk
  have hl := ins_length hr e
  unfold rPut at hk
  split at hk
  · rename_i h
    cases hk
    exact .inl ⟨rfl, rfl, rfl, h⟩
  · rename_i h
    cases hk
    refine .inr ⟨rfl, ?_, by rw [List.length_drop]; omega⟩
    match hx : ins es e, h with
    | x :: l, _ => rfl
    | [], h => exact absurd (Nat.zero_le _) h
theorem rGet_of_mem {es : List En} (h : Rises es) {x : En} (hx : x ∈ es) : rGet es x.ep = (x, true) := by
  induction es with
  | nil => cases hx
  | cons y es ih =>
    unfold rGet
    rw [List.find?_cons]
    rcases List.mem_cons.1 hx with rfl | hx
    · simp
    · have := h.head x hx
      rw [show decide (y.ep = x.ep) = false by simp; omega]
      exact ih h.tail hx
theorem rGet_none {es : List En} {n : Int} (h : ∀ x ∈ es, x.ep ≠ n) : rGet es n = (En.zero, false) := by
  unfold rGet
  rw [List.find?_eq_none.2 (fun x hx => by simpa using h x hx)]
theorem rGet_ins {es : List En} (h : Rises es) (e : En) (n : Int) : rGet (ins es e) n = if n = e.ep then (e, true) else rGet es n := by
  have hi := ins_rises h e
  split
  · rename_i hn
    subst hn
    exact rGet_of_mem hi (mem_ins.2 (.inl rfl))
  · rename_i hn
    by_cases hx : ∃ x ∈ es, x.ep = n
    · obtain ⟨x, hx, rfl⟩ := hx
      rw [rGet_of_mem h hx]
      exact rGet_of_mem hi (mem_ins.2 (.inr ⟨hx, hn⟩))
    · rw [rGet_none (fun x hm he => hx ⟨x, hm, he⟩)]
      refine rGet_none fun x hm he => ?_
      rcases mem_ins.1 hm with rfl | ⟨hm, _⟩
      · exact hn he.symm
      · exact hx ⟨x, hm, he⟩
theorem rGet_tail {es : List En} {g : En} (h : Rises (g :: es)) (n : Int) : rGet es n = if g.ep = n then (En.zero, false) else rGet (g :: es) n := by
  split
  · rename_i hn
    exact rGet_none fun x hx he => by have := h.head x hx; omega
  · rename_i hn
    unfold rGet
    rw [List.find?_cons, show decide (g.ep = n) = false by simpa using hn]
theorem bounds_eq {es E2 : List En} {e g x : En} {b now : Bool} (hr : Rises es) (h4 : es.length ≤ 4) (hk : kPut es e = (E2, g, b)) (hx : kGet E2 e.ep = (x, now)) :
    (b = false → now = true ∧ x = e) ∧ (b = true → (g = e ∧ now = false) ∨ (g ≠ e ∧ now = true ∧ x = e)) := by
  have hr2 : Rises E2 := by have := kPut_rises hr h4 e; rwa [hk] at this
  rw [kGet_eq hr2] at hx
  rcases kput_cases hr h4 hk with ⟨rfl, rfl, rfl, _⟩ | ⟨rfl, hi, _⟩
  · rw [rGet_ins hr, if_pos rfl] at hx
    cases hx
    exact ⟨fun _ => ⟨rfl, rfl⟩, fun h => by cases h⟩
  · refine ⟨fun h => (by cases h), fun _ => ?_⟩
    have hri := ins_rises hr e
    have hg := rGet_ins hr e e.ep
    rw [if_pos rfl] at hg
    rw [hi] at hri hg
    rw [rGet_tail hri] at hx
    split at hx
    · rename_i he
      cases hx
      refine .inl ⟨?_, rfl⟩
      have := rGet_of_mem hri (List.mem_cons_self ..)
      rw [he, hg] at this
      cases this; rfl
    · rename_i he
      rw [hg] at hx
      cases hx
      exact .inr ⟨fun h => he (by rw [h]), rfl, rfl⟩
theorem bounds_ne {es E2 : List En} {e g x a : En} {b now was : Bool} {n : Int} (hr : Rises es) (h4 : es.length ≤ 4) (hk : kPut es e = (E2, g, b)) (hn : n ≠ e.ep) (ha : kGet es n = (a, was)) (hx : kGet E2 n = (x, now)) :
    (b = false → now = was ∧ a = x) ∧ (b = true → (was = false ∧ now = false) ∨ (was = true ∧ g.ep = n ∧ now = false) ∨ (was = true ∧ g.ep ≠ n ∧ now = true ∧ a = x)) := by
  have hr2 : Rises E2 := by have := kPut_rises hr h4 e; rwa [hk] at this
  rw [kGet_eq hr2] at hx
  rw [kGet_eq hr] at ha
  have hg := rGet_ins hr e n
  rw [if_neg hn, ha] at hg
  rcases kput_cases hr h4 hk with ⟨rfl, rfl, rfl, _⟩ | ⟨rfl, hi, _⟩
  · rw [hg] at hx
    cases hx
    exact ⟨fun _ => ⟨rfl, rfl⟩, fun h => by cases h⟩
  · refine ⟨fun h => (by cases h), fun _ => ?_⟩
    have hri := ins_rises hr e
    rw [hi] at hri hg
    rw [rGet_tail hri] at hx
    split at hx
    · rename_i he
      cases hx
      have := rGet_of_mem hri (List.mem_cons_self ..)
      rw [he, hg] at this
      cases this
      exact .inr (.inl ⟨rfl, he, rfl⟩)
    · rename_i he
      rw [hg] at hx
      cases hx
      cases now
      · exact .inl ⟨rfl, rfl⟩
      · exact .inr (.inr ⟨rfl, he, rfl, rfl⟩)
theorem gone_le {es E2 : List En} {e g : En} (hr : Rises es) (hi : ins es e = g :: E2) : g.ep ≤ e.ep := by
  have hri := ins_rises hr e
  have hm : e ∈ ins es e := mem_ins.2 (.inl rfl)
  rw [hi] at hri hm
  rcases List.mem_cons.1 hm with rfl | hm
  · exact Int.le_refl _
  · have := hri.head e hm; omega

set_option maxRecDepth 100000 in
set_option maxHeartbeats 32000000 in
theorem skipBounds_walk (a0 : Option Addr) (len0 cap0 : Nat) (z0 : List (List Int)) (W : World) (e0 : len0 = z0.length) (m0 : len0 ≤ maxLen) (i0 : RowsIn 2 .u8 W a0 z0) :
    Calls Try.prog 17 #[.slice a0 len0 cap0] W fun e w' => e = .returned (.bool true) ∧ Below W.heap.size W w' := by
  have mixed : Try.prog.follows .mixedOrders = true := by kernel_rfl
  have E0 := hid e0
  have I0 := hid i0
  have hm0 : len0 ≤ 9223372036854775807 := by unfold maxLen at m0; exact m0
  clear e0 i0 m0
  have H0 := hid ((Hd.refl W).boxk (o := .cells #[.slice none 0 0] 85 (0, 0)) W.heap.size rfl |>.addCaNil)
  go_enter Try.func17, Try.ntmps17
  go_wp2_with fail
  go_loopw [4] (fun i wr => ∃ (j : Nat) (v : Value) (es : List En), j ≤ len0 ∧ j ≤ 40 ∧ i = .int .i64 j ∧ Hid (Rises es) ∧ es.length ≤ 4 ∧ Hid (Hd W wr [CaR v es, Blk W.heap.size (.cells #[v] 85 (0, 0))])) (fun i _ => len0 - (intOf i).toNat)
  case atStart => exact ⟨0, _, [], Nat.zero_le _, Nat.zero_le _, rfl, hid List.Pairwise.nil, Nat.zero_le _, H0⟩
  case round =>
    clear H0
    obtain ⟨j, v, es, hj, hj40, rfl, HR, hes, H⟩ := hrel
    obtain ⟨wo, hwo⟩ : ∃ wo : World, wo = wr := ⟨_, rfl⟩
    rw [← hwo] at H ⊢
    clear hwo wr
    obtain ⟨av, cv, rfl⟩ := H.out.ca_form
    have zj0 : (0 : Int) ≤ (j : Int) := by omega
    by_cases hgo : j < len0 ∧ j < 40
    · obtain ⟨h1, h2⟩ := hgo
      have d1 : decide ((j : Int) < (len0 : Int)) = true := by simp; omega
      have d1' : decide (j < len0) = true := by simp; omega
      have d2 : decide ((j : Int) < 40) = true := by simp; omega
      have d2' : decide (j < 40) = true := by simp; omega
      obtain ⟨z, hz⟩ : ∃ z, z0[j]? = some z := ⟨z0[j]'(by rw [← E0.out]; exact h1), List.getElem?_eq_getElem _⟩
      obtain ⟨hzl, hzb, g, og, rfl, hzc⟩ := I0.out.later H.out.below j z hz
      obtain ⟨k0, k1, rfl⟩ : ∃ k0 k1, z = [k0, k1] := by
        match z, hzl with
        | [a, b], _ => exact ⟨a, b, rfl⟩
      have x0 := hzc 0 _ rfl
      have x1 := hzc 1 _ rfl
      rw [Nat.add_zero] at x0
      have xlt := World.block_lt_of_cell? _ _ x0
      obtain ⟨p0, q0⟩ : 0 ≤ k0 ∧ k0 ≤ 255 := by simpa [IntKind.min, IntKind.max, IntKind.signed, IntKind.bits] using hzb k0 (by simp)
      obtain ⟨p1, q1⟩ : 0 ≤ k1 ∧ k1 ≤ 255 := by simpa [IntKind.min, IntKind.max, IntKind.signed, IntKind.bits] using hzb k1 (by simp)
      have zj1 : (j : Int) < (len0 : Int) := by omega
      clear hz hzc hzl hzb
      obtain ⟨K, hK0⟩ : ∃ K, k0 % 12 = K := ⟨_, rfl⟩
      have hKa : 0 ≤ K := by omega
      have hKb : K < 12 := by omega
      go_wp2_with fail
      go_region

      have H9 := hid ((H.out.boxk (o := .cells #[.int .i64 K, .int .i64 k1, .int .u64 0, .int .u64 0] 91 (0, 0)) wo.heap.size rfl).dr)
      clear H
      have H := H9
      clear H9
      obtain ⟨w1, hw1⟩ : ∃ w1, (wo.alloc (.cells #[.int .i64 K, .int .i64 k1, .int .u64 0, .int .u64 0] 91 (0, 0))).drew = w1 := ⟨_, rfl⟩
      rw [hw1] at H ⊢
      clear hw1
      obtain ⟨⟨E2, ⟨ga, gk, gx, gy⟩, b⟩, hE2⟩ : ∃ r, kPut es ⟨K, k1, 0, 0⟩ = r := ⟨_, rfl⟩
      obtain ⟨hr2, he4, -⟩ := rises_put HR.out hes hE2
      have hcs := kput_cases HR.out hes hE2
      have HR2 := hid hr2
      have HE2 := hid hE2
      clear hE2 hr2
      obtain ⟨n2, hn2⟩ : ∃ n, E2.length = n := ⟨_, rfl⟩
      rw [hn2] at he4 hcs
      have HN2 := hid hn2
      clear hn2 hK0
      have hk := Hd.nthk 0 H.out rfl
      have eb0 := (cell_of_heap hk 0).trans (show _ = some (.int .i64 K) from rfl)
      have eb1 := (cell_of_heap hk 1).trans (show _ = some (.int .i64 k1) from rfl)
      have eb2 := (cell_of_heap hk 2).trans (show _ = some (.int .u64 0) from rfl)
      have eb3 := (cell_of_heap hk 3).trans (show _ = some (.int .u64 0) from rfl)
      have ebs := (Array.getElem?_eq_some_iff.1 hk).1
      clear hk
      have hk := Hd.nthk 2 H.out rfl
      have c0 := (cell_of_heap hk 0).trans (show _ = some (.slice av es.length cv) from rfl)
      have cs := (Array.getElem?_eq_some_iff.1 hk).1
      clear hk
      go_wp2_with fail
      refine (put16_is K k1 0 0 HE2.out HR.out (by omega) (H.out.front 1 rfl).ca H.out).mono ?_
      rintro e w2 ⟨adD, capD, rfl, hd⟩
      rw [HN2.out] at hd ⊢
      clear eb0 eb1 eb2 eb3 ebs c0 cs H
      have H := hid hd
      clear hd x0 x1 d1 d1' d2 d2' zj1
      rcases hcs with ⟨rfl, hg, -, -⟩ | ⟨rfl, hins, hn4⟩
      · cases hg
        have dn4 : decide ((4 : Int) < (n2 : Int)) = false := by simp; omega
        have dn4' : decide (4 < n2) = false := by simp; omega
        have hne := neq_E ⟨0, 0, 0, 0⟩ ⟨0, 0, 0, 0⟩
        rw [show decide ((⟨0, 0, 0, 0⟩ : En) = ⟨0, 0, 0, 0⟩) = true from decide_eq_true rfl] at hne
        dsimp only [Bool.not_true] at hne
        have hk := Hd.nthk 1 H.out rfl
        have eb0 := (cell_of_heap hk 0).trans (show _ = some (.int .i64 K) from rfl)
        have eb1 := (cell_of_heap hk 1).trans (show _ = some (.int .i64 k1) from rfl)
        have eb2 := (cell_of_heap hk 2).trans (show _ = some (.int .u64 0) from rfl)
        have eb3 := (cell_of_heap hk 3).trans (show _ = some (.int .u64 0) from rfl)
        have ebs := (Array.getElem?_eq_some_iff.1 hk).1
        clear hk
        have zw2 : ¬ (wo.heap.size = w2.heap.size) := by omega
        have zw3 : ¬ (wo.heap.size = w2.heap.size + 1) := by omega
        have zw4 : wo.heap.size < w2.heap.size + 1 := by omega
        have H3 := hid ((H.out.boxk (o := .cells #[.slice adD n2 capD] 85 (0, 0)) w2.heap.size rfl).boxk (o := .cells #[.int .i64 0, .int .i64 0, .int .u64 0, .int .u64 0] 91 (0, 0)) (w2.heap.size + 1) (by simp))
        go_wp2_with fail
        clear dn4 dn4' hne
        clear eb0 eb1 eb2 eb3 ebs zw2 zw3 zw4 H
        go_loopw [9] (fun k wr => ∃ m : Nat, m ≤ 12 ∧ k = .int .i64 m ∧ Hid (Hd W wr [Blk (w2.heap.size + 1) (.cells #[.int .i64 0, .int .i64 0, .int .u64 0, .int .u64 0] 91 (0, 0)), Blk (w2.heap.size) (.cells #[.slice adD n2 capD] 85 (0, 0)), CaR (.slice adD n2 capD) E2, Blk (wo.heap.size) (.cells #[.int .i64 K, .int .i64 k1, .int .u64 0, .int .u64 0] 91 (0, 0)), CaR (.slice av es.length cv) es, Blk (W.heap.size) (.cells #[.slice av es.length cv] 85 (0, 0))])) (fun k _ => 12 - (intOf k).toNat)
        case atStart => exact ⟨0, Nat.zero_le _, rfl, H3⟩
        case round =>
          clear H3
          obtain ⟨m, hm, rfl, H⟩ := hrel
          obtain ⟨wi, hwi⟩ : ∃ wi : World, wi = wr := ⟨_, rfl⟩
          rw [← hwi] at H ⊢
          clear hwi wr
          by_cases hm2 : m < 12
          · have dm : decide ((m : Int) < 12) = true := by simp; omega
            have dm' : decide (m < 12) = true := by simp; omega
            have zm : (m : Int) ≤ 12 := by omega
            have zm0 : 0 ≤ (m : Int) := by omega
            have hk := Hd.nthk 5 H.out rfl
            have c0 := (cell_of_heap hk 0).trans (show _ = some (.slice av es.length cv) from rfl)
            have cs := (Array.getElem?_eq_some_iff.1 hk).1
            clear hk
            obtain ⟨⟨⟨aa, ak, ax, ay⟩, was⟩, hg1⟩ : ∃ r, kGet es (m : Int) = r := ⟨_, rfl⟩
            obtain ⟨⟨⟨ba, bk, bx, by_⟩, now⟩, hg2⟩ : ∃ r, kGet E2 (m : Int) = r := ⟨_, rfl⟩
            have HG1 := hid hg1
            have HG2 := hid hg2
            clear hg1 hg2
            go_wp2_with fail
            refine (get16_is (m : Int) HG1.out HR.out (by omega) (H.out.front 4 rfl).ca H.out).mono ?_
            rintro e w4 ⟨rfl, hd⟩
            clear H c0 cs
            have H := hid hd
            clear hd
            have hk := Hd.nthk 1 H.out rfl
            have c0 := (cell_of_heap hk 0).trans (show _ = some (.slice adD n2 capD) from rfl)
            have cs := (Array.getElem?_eq_some_iff.1 hk).1
            clear hk
            have zw2 : ¬ (w2.heap.size = w4.heap.size) := by omega
            go_wp2_with fail
            have H9 := hid (H.out.boxk (o := .cells #[.int .i64 aa, .int .i64 ak, .int .u64 ax, .int .u64 ay] 91 (0, 0)) w4.heap.size rfl)
            clear H c0 cs
            have H := H9
            clear H9
            clear zw2
            refine (get16_is (m : Int) HG2.out HR2.out (by have := HN2.out; omega) (by have h := (H.out.front 3 rfl).ca; exact h) H.out).mono ?_
            rintro e w5 ⟨rfl, hd⟩
            clear H
            have H := hid hd
            clear hd
            by_cases hk : (m : Int) = K
            · subst hk
              have hbe := bounds_eq HR.out hes HE2.out HG2.out
              obtain ⟨rfl, hx⟩ := hbe.1 rfl
              cases hx
              clear hbe
              have hk := Hd.nthk 4 H.out rfl
              have eb0 := (cell_of_heap hk 0).trans (show _ = some (.int .i64 (m : Int)) from rfl)
              have eb1 := (cell_of_heap hk 1).trans (show _ = some (.int .i64 k1) from rfl)
              have eb2 := (cell_of_heap hk 2).trans (show _ = some (.int .u64 0) from rfl)
              have eb3 := (cell_of_heap hk 3).trans (show _ = some (.int .u64 0) from rfl)
              have ebs := (Array.getElem?_eq_some_iff.1 hk).1
              clear hk
              have hk := Hd.nthk 1 H.out rfl
              have gb0 := (cell_of_heap hk 0).trans (show _ = some (.int .i64 0) from rfl)
              have gb1 := (cell_of_heap hk 1).trans (show _ = some (.int .i64 0) from rfl)
              have gb2 := (cell_of_heap hk 2).trans (show _ = some (.int .u64 0) from rfl)
              have gb3 := (cell_of_heap hk 3).trans (show _ = some (.int .u64 0) from rfl)
              have gbs := (Array.getElem?_eq_some_iff.1 hk).1
              clear hk
              have hk := Hd.nthk 0 H.out rfl
              have ab0 := (cell_of_heap hk 0).trans (show _ = some (.int .i64 aa) from rfl)
              have ab1 := (cell_of_heap hk 1).trans (show _ = some (.int .i64 ak) from rfl)
              have ab2 := (cell_of_heap hk 2).trans (show _ = some (.int .u64 ax) from rfl)
              have ab3 := (cell_of_heap hk 3).trans (show _ = some (.int .u64 ay) from rfl)
              have abs := (Array.getElem?_eq_some_iff.1 hk).1
              clear hk
              have zw1 : ¬ (wo.heap.size = w5.heap.size) := by omega
              have zw2 : ¬ (w2.heap.size + 1 = w5.heap.size) := by omega
              have zw3 : ¬ (w4.heap.size = w5.heap.size) := by omega
              have hq := neq_E ⟨(m : Int), k1, 0, 0⟩ ⟨(m : Int), k1, 0, 0⟩
              rw [show decide ((⟨(m : Int), k1, 0, 0⟩ : En) = ⟨(m : Int), k1, 0, 0⟩) = true from decide_eq_true rfl] at hq
              dsimp only [Bool.not_true] at hq
              go_wp2_with fail
              go_roundw
              case rel => exact ⟨m + 1, by omega, by go_num, hid (H.out.drop.al)⟩
              case measure => simp [intOf]; omega
            · have hkf : decide ((m : Int) = K) = false := by simpa using hk
              have hkf' : ((m : Int) == K) = false := by simpa using hk
              have hbn := bounds_ne HR.out hes HE2.out hk HG1.out HG2.out
              obtain ⟨rfl, hx⟩ := hbn.1 rfl
              cases hx
              clear hbn hk
              cases now
              · skip
                have hk := Hd.nthk 4 H.out rfl
                have eb0 := (cell_of_heap hk 0).trans (show _ = some (.int .i64 K) from rfl)
                have eb1 := (cell_of_heap hk 1).trans (show _ = some (.int .i64 k1) from rfl)
                have eb2 := (cell_of_heap hk 2).trans (show _ = some (.int .u64 0) from rfl)
                have eb3 := (cell_of_heap hk 3).trans (show _ = some (.int .u64 0) from rfl)
                have ebs := (Array.getElem?_eq_some_iff.1 hk).1
                clear hk
                have hk := Hd.nthk 1 H.out rfl
                have gb0 := (cell_of_heap hk 0).trans (show _ = some (.int .i64 0) from rfl)
                have gb1 := (cell_of_heap hk 1).trans (show _ = some (.int .i64 0) from rfl)
                have gb2 := (cell_of_heap hk 2).trans (show _ = some (.int .u64 0) from rfl)
                have gb3 := (cell_of_heap hk 3).trans (show _ = some (.int .u64 0) from rfl)
                have gbs := (Array.getElem?_eq_some_iff.1 hk).1
                clear hk
                have hk := Hd.nthk 0 H.out rfl
                have ab0 := (cell_of_heap hk 0).trans (show _ = some (.int .i64 aa) from rfl)
                have ab1 := (cell_of_heap hk 1).trans (show _ = some (.int .i64 ak) from rfl)
                have ab2 := (cell_of_heap hk 2).trans (show _ = some (.int .u64 ax) from rfl)
                have ab3 := (cell_of_heap hk 3).trans (show _ = some (.int .u64 ay) from rfl)
                have abs := (Array.getElem?_eq_some_iff.1 hk).1
                clear hk
                have zw1 : ¬ (wo.heap.size = w5.heap.size) := by omega
                have zw2 : ¬ (w2.heap.size + 1 = w5.heap.size) := by omega
                have zw3 : ¬ (w4.heap.size = w5.heap.size) := by omega
                have hq := neq_E ⟨aa, ak, ax, ay⟩ ⟨aa, ak, ax, ay⟩
                rw [show decide ((⟨aa, ak, ax, ay⟩ : En) = ⟨aa, ak, ax, ay⟩) = true from decide_eq_true rfl] at hq
                dsimp only [Bool.not_true] at hq
                go_wp2_with fail
                go_roundw
                case rel => exact ⟨m + 1, by omega, by go_num, hid (H.out.drop.al)⟩
                case measure => simp [intOf]; omega
              · skip
                have hk := Hd.nthk 4 H.out rfl
                have eb0 := (cell_of_heap hk 0).trans (show _ = some (.int .i64 K) from rfl)
                have eb1 := (cell_of_heap hk 1).trans (show _ = some (.int .i64 k1) from rfl)
                have eb2 := (cell_of_heap hk 2).trans (show _ = some (.int .u64 0) from rfl)
                have eb3 := (cell_of_heap hk 3).trans (show _ = some (.int .u64 0) from rfl)
                have ebs := (Array.getElem?_eq_some_iff.1 hk).1
                clear hk
                have hk := Hd.nthk 1 H.out rfl
                have gb0 := (cell_of_heap hk 0).trans (show _ = some (.int .i64 0) from rfl)
                have gb1 := (cell_of_heap hk 1).trans (show _ = some (.int .i64 0) from rfl)
                have gb2 := (cell_of_heap hk 2).trans (show _ = some (.int .u64 0) from rfl)
                have gb3 := (cell_of_heap hk 3).trans (show _ = some (.int .u64 0) from rfl)
                have gbs := (Array.getElem?_eq_some_iff.1 hk).1
                clear hk
                have hk := Hd.nthk 0 H.out rfl
                have ab0 := (cell_of_heap hk 0).trans (show _ = some (.int .i64 aa) from rfl)
                have ab1 := (cell_of_heap hk 1).trans (show _ = some (.int .i64 ak) from rfl)
                have ab2 := (cell_of_heap hk 2).trans (show _ = some (.int .u64 ax) from rfl)
                have ab3 := (cell_of_heap hk 3).trans (show _ = some (.int .u64 ay) from rfl)
                have abs := (Array.getElem?_eq_some_iff.1 hk).1
                clear hk
                have zw1 : ¬ (wo.heap.size = w5.heap.size) := by omega
                have zw2 : ¬ (w2.heap.size + 1 = w5.heap.size) := by omega
                have zw3 : ¬ (w4.heap.size = w5.heap.size) := by omega
                have hq := neq_E ⟨aa, ak, ax, ay⟩ ⟨aa, ak, ax, ay⟩
                rw [show decide ((⟨aa, ak, ax, ay⟩ : En) = ⟨aa, ak, ax, ay⟩) = true from decide_eq_true rfl] at hq
                dsimp only [Bool.not_true] at hq
                go_wp2_with fail
                go_roundw
                case rel => exact ⟨m + 1, by omega, by go_num, hid (H.out.drop.al)⟩
                case measure => simp [intOf]; omega
          · have dm : decide ((m : Int) < 12) = false := by simp; omega
            have dm' : decide (m < 12) = false := by simp; omega
            clear hm hm2
            go_wp2_with fail
            go_loopw [14] (fun k wr => ∃ m : Nat, (m + 1 ≤ n2 ∨ m = 0) ∧ k = .int .i64 ((m : Int) + 1) ∧ Hid (Hd W wr [Blk (w2.heap.size + 1) (.cells #[.int .i64 0, .int .i64 0, .int .u64 0, .int .u64 0] 91 (0, 0)), Blk (w2.heap.size) (.cells #[.slice adD n2 capD] 85 (0, 0)), CaR (.slice adD n2 capD) E2, Blk (wo.heap.size) (.cells #[.int .i64 K, .int .i64 k1, .int .u64 0, .int .u64 0] 91 (0, 0)), CaR (.slice av es.length cv) es, Blk (W.heap.size) (.cells #[.slice av es.length cv] 85 (0, 0))])) (fun k _ => n2 - (intOf k).toNat)
            case atStart => exact ⟨0, .inr rfl, rfl, H⟩
            case round =>
              clear H
              obtain ⟨m, hm, rfl, H⟩ := hrel
              obtain ⟨wi, hwi⟩ : ∃ wi : World, wi = wr := ⟨_, rfl⟩
              rw [← hwi] at H ⊢
              clear hwi wr
              have zm0 : 0 ≤ (m : Int) := by omega
              have zm1 : (m : Int) ≤ 4 := by omega
              by_cases hm2 : m + 1 < n2
              · have dm : decide ((m : Int) + 1 < ((n2 : Nat) : Int)) = true := by simp; omega
                have dm' : decide (m + 1 < n2) = true := by simp; omega
                have zm2 : (m : Int) + 1 < ((n2 : Nat) : Int) := by omega
                obtain ⟨⟨fa, fk, fx, fy⟩, hf⟩ : ∃ f, E2[m]? = some f := ⟨E2[m]'(by have := HN2.out; omega), List.getElem?_eq_getElem _⟩
                obtain ⟨⟨ha, jk, jx, jy⟩, hh⟩ : ∃ f, E2[m + 1]? = some f := ⟨E2[m + 1]'(by have := HN2.out; omega), List.getElem?_eq_getElem _⟩
                have hlt := HR2.out.lt hf hh (by omega)
                dsimp only at hlt
                have dlt : decide (ha ≤ fa) = false := by simp; omega
                have hca := (H.out.front 2 rfl).ca
                obtain ⟨ad3, cap3, heq, hat, -⟩ := hca.ex
                simp only [Value.slice.injEq] at heq
                obtain ⟨heq, -, -⟩ := heq
                subst heq
                obtain ⟨g2, o2, heq, hc⟩ := hat m _ hf
                obtain ⟨g3, o3, heq3, hc3⟩ := hat (m + 1) _ hh
                subst heq
                simp only [Option.some.injEq, Addr.mk.injEq, and_true] at heq3
                obtain ⟨rfl, rfl⟩ := heq3
                have y0 := hc 0 _ rfl
                have y1 := hc3 0 _ rfl
                rw [Nat.add_zero] at y0 y1
                clear hc hc3 hat hca hf hh hlt
                have hk := Hd.nthk 1 H.out rfl
                have c0 := (cell_of_heap hk 0).trans (show _ = some (.slice (some ⟨g2, o2, none⟩) n2 capD) from rfl)
                have cs := (Array.getElem?_eq_some_iff.1 hk).1
                clear hk
                go_wp2_with fail
                go_region
                go_wp2_with fail
                go_roundw
                case rel => exact ⟨m + 1, .inl (by omega), by go_num, hid H.out.dr⟩
                case measure => simp [intOf]; omega
              · have dm : decide ((m : Int) + 1 < ((n2 : Nat) : Int)) = false := by simp; omega
                have dm' : decide (m + 1 < n2) = false := by simp; omega
                have hk := Hd.nthk 1 H.out rfl
                have k0 := (cell_of_heap hk 0).trans (show _ = some (.slice adD n2 capD) from rfl)
                have ks := (Array.getElem?_eq_some_iff.1 hk).1
                clear hk
                have hk := Hd.nthk 5 H.out rfl
                have c0 := (cell_of_heap hk 0).trans (show _ = some (.slice av es.length cv) from rfl)
                have cs := (Array.getElem?_eq_some_iff.1 hk).1
                have cf := frozen_of_heap hk
                clear hk
                go_wp2_with fail
                go_roundw
                case rel => exact ⟨j + 1, .slice adD n2 capD, E2, by omega, by omega, by go_num, HR2, by have := HN2.out; omega, hid (Hd.dropEnd (Rs := [CaR (.slice adD n2 capD) E2, Blk W.heap.size (.cells #[.slice adD n2 capD] 85 (0, 0))]) (((H.out.front 5 rfl).set 0 (.slice adD n2 capD)).front 3 rfl))⟩
                case measure => simp [intOf]; omega
      · skip
        obtain rfl : n2 = 4 := hn4
        have hle := gone_le HR.out hins
        clear hins
        dsimp only at hle
        have dle : decide (K < ga) = false := by simp; omega
        have hk := Hd.nthk 1 H.out rfl
        have eb0 := (cell_of_heap hk 0).trans (show _ = some (.int .i64 K) from rfl)
        have eb1 := (cell_of_heap hk 1).trans (show _ = some (.int .i64 k1) from rfl)
        have eb2 := (cell_of_heap hk 2).trans (show _ = some (.int .u64 0) from rfl)
        have eb3 := (cell_of_heap hk 3).trans (show _ = some (.int .u64 0) from rfl)
        have ebs := (Array.getElem?_eq_some_iff.1 hk).1
        clear hk
        have zw2 : ¬ (wo.heap.size = w2.heap.size) := by omega
        have zw3 : ¬ (wo.heap.size = w2.heap.size + 1) := by omega
        have zw4 : wo.heap.size < w2.heap.size + 1 := by omega
        have H3 := hid ((H.out.boxk (o := .cells #[.slice adD 4 capD] 85 (0, 0)) w2.heap.size rfl).boxk (o := .cells #[.int .i64 ga, .int .i64 gk, .int .u64 gx, .int .u64 gy] 91 (0, 0)) (w2.heap.size + 1) (by simp))
        go_wp2_with fail
        clear dle
        clear eb0 eb1 eb2 eb3 ebs zw2 zw3 zw4 H
        go_loopw [9] (fun k wr => ∃ m : Nat, m ≤ 12 ∧ k = .int .i64 m ∧ Hid (Hd W wr [Blk (w2.heap.size + 1) (.cells #[.int .i64 ga, .int .i64 gk, .int .u64 gx, .int .u64 gy] 91 (0, 0)), Blk (w2.heap.size) (.cells #[.slice adD 4 capD] 85 (0, 0)), CaR (.slice adD 4 capD) E2, Blk (wo.heap.size) (.cells #[.int .i64 K, .int .i64 k1, .int .u64 0, .int .u64 0] 91 (0, 0)), CaR (.slice av es.length cv) es, Blk (W.heap.size) (.cells #[.slice av es.length cv] 85 (0, 0))])) (fun k _ => 12 - (intOf k).toNat)
        case atStart => exact ⟨0, Nat.zero_le _, rfl, H3⟩
        case round =>
          clear H3
          obtain ⟨m, hm, rfl, H⟩ := hrel
          obtain ⟨wi, hwi⟩ : ∃ wi : World, wi = wr := ⟨_, rfl⟩
          rw [← hwi] at H ⊢
          clear hwi wr
          by_cases hm2 : m < 12
          · have dm : decide ((m : Int) < 12) = true := by simp; omega
            have dm' : decide (m < 12) = true := by simp; omega
            have zm : (m : Int) ≤ 12 := by omega
            have zm0 : 0 ≤ (m : Int) := by omega
            have hk := Hd.nthk 5 H.out rfl
            have c0 := (cell_of_heap hk 0).trans (show _ = some (.slice av es.length cv) from rfl)
            have cs := (Array.getElem?_eq_some_iff.1 hk).1
            clear hk
            obtain ⟨⟨⟨aa, ak, ax, ay⟩, was⟩, hg1⟩ : ∃ r, kGet es (m : Int) = r := ⟨_, rfl⟩
            obtain ⟨⟨⟨ba, bk, bx, by_⟩, now⟩, hg2⟩ : ∃ r, kGet E2 (m : Int) = r := ⟨_, rfl⟩
            have HG1 := hid hg1
            have HG2 := hid hg2
            clear hg1 hg2
            go_wp2_with fail
            refine (get16_is (m : Int) HG1.out HR.out (by omega) (H.out.front 4 rfl).ca H.out).mono ?_
            rintro e w4 ⟨rfl, hd⟩
            clear H c0 cs
            have H := hid hd
            clear hd
            have hk := Hd.nthk 1 H.out rfl
            have c0 := (cell_of_heap hk 0).trans (show _ = some (.slice adD 4 capD) from rfl)
            have cs := (Array.getElem?_eq_some_iff.1 hk).1
            clear hk
            have zw2 : ¬ (w2.heap.size = w4.heap.size) := by omega
            go_wp2_with fail
            have H9 := hid (H.out.boxk (o := .cells #[.int .i64 aa, .int .i64 ak, .int .u64 ax, .int .u64 ay] 91 (0, 0)) w4.heap.size rfl)
            clear H c0 cs
            have H := H9
            clear H9
            clear zw2
            refine (get16_is (m : Int) HG2.out HR2.out (by have := HN2.out; omega) (by have h := (H.out.front 3 rfl).ca; exact h) H.out).mono ?_
            rintro e w5 ⟨rfl, hd⟩
            clear H
            have H := hid hd
            clear hd
            by_cases hk : (m : Int) = K
            · subst hk
              have hbe := bounds_eq HR.out hes HE2.out HG2.out
              rcases hbe.2 rfl with ⟨hx, rfl⟩ | ⟨hx, rfl, hx2⟩
              · cases hx
                clear hbe
                have hk := Hd.nthk 4 H.out rfl
                have eb0 := (cell_of_heap hk 0).trans (show _ = some (.int .i64 (m : Int)) from rfl)
                have eb1 := (cell_of_heap hk 1).trans (show _ = some (.int .i64 k1) from rfl)
                have eb2 := (cell_of_heap hk 2).trans (show _ = some (.int .u64 0) from rfl)
                have eb3 := (cell_of_heap hk 3).trans (show _ = some (.int .u64 0) from rfl)
                have ebs := (Array.getElem?_eq_some_iff.1 hk).1
                clear hk
                have hk := Hd.nthk 1 H.out rfl
                have gb0 := (cell_of_heap hk 0).trans (show _ = some (.int .i64 (m : Int)) from rfl)
                have gb1 := (cell_of_heap hk 1).trans (show _ = some (.int .i64 k1) from rfl)
                have gb2 := (cell_of_heap hk 2).trans (show _ = some (.int .u64 0) from rfl)
                have gb3 := (cell_of_heap hk 3).trans (show _ = some (.int .u64 0) from rfl)
                have gbs := (Array.getElem?_eq_some_iff.1 hk).1
                clear hk
                have hk := Hd.nthk 0 H.out rfl
                have ab0 := (cell_of_heap hk 0).trans (show _ = some (.int .i64 aa) from rfl)
                have ab1 := (cell_of_heap hk 1).trans (show _ = some (.int .i64 ak) from rfl)
                have ab2 := (cell_of_heap hk 2).trans (show _ = some (.int .u64 ax) from rfl)
                have ab3 := (cell_of_heap hk 3).trans (show _ = some (.int .u64 ay) from rfl)
                have abs := (Array.getElem?_eq_some_iff.1 hk).1
                clear hk
                have zw1 : ¬ (wo.heap.size = w5.heap.size) := by omega
                have zw2 : ¬ (w2.heap.size + 1 = w5.heap.size) := by omega
                have zw3 : ¬ (w4.heap.size = w5.heap.size) := by omega
                have hq := eq_E ⟨(m : Int), k1, 0, 0⟩ ⟨(m : Int), k1, 0, 0⟩
                rw [show decide ((⟨(m : Int), k1, 0, 0⟩ : En) = ⟨(m : Int), k1, 0, 0⟩) = true from decide_eq_true rfl] at hq
                dsimp only at hq
                go_wp2_with fail
                go_roundw
                case rel => exact ⟨m + 1, by omega, by go_num, hid (H.out.drop.al)⟩
                case measure => simp [intOf]; omega
              · cases hx2
                clear hbe
                have hk := Hd.nthk 4 H.out rfl
                have eb0 := (cell_of_heap hk 0).trans (show _ = some (.int .i64 (m : Int)) from rfl)
                have eb1 := (cell_of_heap hk 1).trans (show _ = some (.int .i64 k1) from rfl)
                have eb2 := (cell_of_heap hk 2).trans (show _ = some (.int .u64 0) from rfl)
                have eb3 := (cell_of_heap hk 3).trans (show _ = some (.int .u64 0) from rfl)
                have ebs := (Array.getElem?_eq_some_iff.1 hk).1
                clear hk
                have hk := Hd.nthk 1 H.out rfl
                have gb0 := (cell_of_heap hk 0).trans (show _ = some (.int .i64 ga) from rfl)
                have gb1 := (cell_of_heap hk 1).trans (show _ = some (.int .i64 gk) from rfl)
                have gb2 := (cell_of_heap hk 2).trans (show _ = some (.int .u64 gx) from rfl)
                have gb3 := (cell_of_heap hk 3).trans (show _ = some (.int .u64 gy) from rfl)
                have gbs := (Array.getElem?_eq_some_iff.1 hk).1
                clear hk
                have hk := Hd.nthk 0 H.out rfl
                have ab0 := (cell_of_heap hk 0).trans (show _ = some (.int .i64 aa) from rfl)
                have ab1 := (cell_of_heap hk 1).trans (show _ = some (.int .i64 ak) from rfl)
                have ab2 := (cell_of_heap hk 2).trans (show _ = some (.int .u64 ax) from rfl)
                have ab3 := (cell_of_heap hk 3).trans (show _ = some (.int .u64 ay) from rfl)
                have abs := (Array.getElem?_eq_some_iff.1 hk).1
                clear hk
                have zw1 : ¬ (wo.heap.size = w5.heap.size) := by omega
                have zw2 : ¬ (w2.heap.size + 1 = w5.heap.size) := by omega
                have zw3 : ¬ (w4.heap.size = w5.heap.size) := by omega
                have hq := eq_E ⟨ga, gk, gx, gy⟩ ⟨(m : Int), k1, 0, 0⟩
                rw [show decide ((⟨ga, gk, gx, gy⟩ : En) = ⟨(m : Int), k1, 0, 0⟩) = false from decide_eq_false hx] at hq
                dsimp only at hq
                clear hx
                have hq2 := neq_E ⟨(m : Int), k1, 0, 0⟩ ⟨(m : Int), k1, 0, 0⟩
                rw [show decide ((⟨(m : Int), k1, 0, 0⟩ : En) = ⟨(m : Int), k1, 0, 0⟩) = true from decide_eq_true rfl] at hq2
                dsimp only [Bool.not_true] at hq2
                go_wp2_with fail
                go_roundw
                case rel => exact ⟨m + 1, by omega, by go_num, hid (H.out.drop.al)⟩
                case measure => simp [intOf]; omega
            · have hkf : decide ((m : Int) = K) = false := by simpa using hk
              have hkf' : ((m : Int) == K) = false := by simpa using hk
              have hbn := bounds_ne HR.out hes HE2.out hk HG1.out HG2.out
              rcases hbn.2 rfl with ⟨rfl, rfl⟩ | ⟨rfl, hx, rfl⟩ | ⟨rfl, hx, rfl, hx2⟩
              · clear hbn hk
                have hk := Hd.nthk 4 H.out rfl
                have eb0 := (cell_of_heap hk 0).trans (show _ = some (.int .i64 K) from rfl)
                have eb1 := (cell_of_heap hk 1).trans (show _ = some (.int .i64 k1) from rfl)
                have eb2 := (cell_of_heap hk 2).trans (show _ = some (.int .u64 0) from rfl)
                have eb3 := (cell_of_heap hk 3).trans (show _ = some (.int .u64 0) from rfl)
                have ebs := (Array.getElem?_eq_some_iff.1 hk).1
                clear hk
                have hk := Hd.nthk 1 H.out rfl
                have gb0 := (cell_of_heap hk 0).trans (show _ = some (.int .i64 ga) from rfl)
                have gb1 := (cell_of_heap hk 1).trans (show _ = some (.int .i64 gk) from rfl)
                have gb2 := (cell_of_heap hk 2).trans (show _ = some (.int .u64 gx) from rfl)
                have gb3 := (cell_of_heap hk 3).trans (show _ = some (.int .u64 gy) from rfl)
                have gbs := (Array.getElem?_eq_some_iff.1 hk).1
                clear hk
                have hk := Hd.nthk 0 H.out rfl
                have ab0 := (cell_of_heap hk 0).trans (show _ = some (.int .i64 aa) from rfl)
                have ab1 := (cell_of_heap hk 1).trans (show _ = some (.int .i64 ak) from rfl)
                have ab2 := (cell_of_heap hk 2).trans (show _ = some (.int .u64 ax) from rfl)
                have ab3 := (cell_of_heap hk 3).trans (show _ = some (.int .u64 ay) from rfl)
                have abs := (Array.getElem?_eq_some_iff.1 hk).1
                clear hk
                have zw1 : ¬ (wo.heap.size = w5.heap.size) := by omega
                have zw2 : ¬ (w2.heap.size + 1 = w5.heap.size) := by omega
                have zw3 : ¬ (w4.heap.size = w5.heap.size) := by omega
                go_wp2_with fail
                go_roundw
                case rel => exact ⟨m + 1, by omega, by go_num, hid (H.out.drop.al)⟩
                case measure => simp [intOf]; omega
              · clear hbn hk
                have hxt : decide (ga = (m : Int)) = true := by simpa using hx
                have hxt' : (ga == (m : Int)) = true := by simpa using hx
                clear hx
                have hk := Hd.nthk 4 H.out rfl
                have eb0 := (cell_of_heap hk 0).trans (show _ = some (.int .i64 K) from rfl)
                have eb1 := (cell_of_heap hk 1).trans (show _ = some (.int .i64 k1) from rfl)
                have eb2 := (cell_of_heap hk 2).trans (show _ = some (.int .u64 0) from rfl)
                have eb3 := (cell_of_heap hk 3).trans (show _ = some (.int .u64 0) from rfl)
                have ebs := (Array.getElem?_eq_some_iff.1 hk).1
                clear hk
                have hk := Hd.nthk 1 H.out rfl
                have gb0 := (cell_of_heap hk 0).trans (show _ = some (.int .i64 ga) from rfl)
                have gb1 := (cell_of_heap hk 1).trans (show _ = some (.int .i64 gk) from rfl)
                have gb2 := (cell_of_heap hk 2).trans (show _ = some (.int .u64 gx) from rfl)
                have gb3 := (cell_of_heap hk 3).trans (show _ = some (.int .u64 gy) from rfl)
                have gbs := (Array.getElem?_eq_some_iff.1 hk).1
                clear hk
                have hk := Hd.nthk 0 H.out rfl
                have ab0 := (cell_of_heap hk 0).trans (show _ = some (.int .i64 aa) from rfl)
                have ab1 := (cell_of_heap hk 1).trans (show _ = some (.int .i64 ak) from rfl)
                have ab2 := (cell_of_heap hk 2).trans (show _ = some (.int .u64 ax) from rfl)
                have ab3 := (cell_of_heap hk 3).trans (show _ = some (.int .u64 ay) from rfl)
                have abs := (Array.getElem?_eq_some_iff.1 hk).1
                clear hk
                have zw1 : ¬ (wo.heap.size = w5.heap.size) := by omega
                have zw2 : ¬ (w2.heap.size + 1 = w5.heap.size) := by omega
                have zw3 : ¬ (w4.heap.size = w5.heap.size) := by omega
                go_wp2_with fail
                go_roundw
                case rel => exact ⟨m + 1, by omega, by go_num, hid (H.out.drop.al)⟩
                case measure => simp [intOf]; omega
              · cases hx2
                clear hbn hk
                have hxt : decide (ga = (m : Int)) = false := by simpa using hx
                have hxt' : (ga == (m : Int)) = false := by simpa using hx
                clear hx
                have hk := Hd.nthk 4 H.out rfl
                have eb0 := (cell_of_heap hk 0).trans (show _ = some (.int .i64 K) from rfl)
                have eb1 := (cell_of_heap hk 1).trans (show _ = some (.int .i64 k1) from rfl)
                have eb2 := (cell_of_heap hk 2).trans (show _ = some (.int .u64 0) from rfl)
                have eb3 := (cell_of_heap hk 3).trans (show _ = some (.int .u64 0) from rfl)
                have ebs := (Array.getElem?_eq_some_iff.1 hk).1
                clear hk
                have hk := Hd.nthk 1 H.out rfl
                have gb0 := (cell_of_heap hk 0).trans (show _ = some (.int .i64 ga) from rfl)
                have gb1 := (cell_of_heap hk 1).trans (show _ = some (.int .i64 gk) from rfl)
                have gb2 := (cell_of_heap hk 2).trans (show _ = some (.int .u64 gx) from rfl)
                have gb3 := (cell_of_heap hk 3).trans (show _ = some (.int .u64 gy) from rfl)
                have gbs := (Array.getElem?_eq_some_iff.1 hk).1
                clear hk
                have hk := Hd.nthk 0 H.out rfl
                have ab0 := (cell_of_heap hk 0).trans (show _ = some (.int .i64 aa) from rfl)
                have ab1 := (cell_of_heap hk 1).trans (show _ = some (.int .i64 ak) from rfl)
                have ab2 := (cell_of_heap hk 2).trans (show _ = some (.int .u64 ax) from rfl)
                have ab3 := (cell_of_heap hk 3).trans (show _ = some (.int .u64 ay) from rfl)
                have abs := (Array.getElem?_eq_some_iff.1 hk).1
                clear hk
                have zw1 : ¬ (wo.heap.size = w5.heap.size) := by omega
                have zw2 : ¬ (w2.heap.size + 1 = w5.heap.size) := by omega
                have zw3 : ¬ (w4.heap.size = w5.heap.size) := by omega
                have hq := neq_E ⟨aa, ak, ax, ay⟩ ⟨aa, ak, ax, ay⟩
                rw [show decide ((⟨aa, ak, ax, ay⟩ : En) = ⟨aa, ak, ax, ay⟩) = true from decide_eq_true rfl] at hq
                dsimp only [Bool.not_true] at hq
                go_wp2_with fail
                go_roundw
                case rel => exact ⟨m + 1, by omega, by go_num, hid (H.out.drop.al)⟩
                case measure => simp [intOf]; omega
          · have dm : decide ((m : Int) < 12) = false := by simp; omega
            have dm' : decide (m < 12) = false := by simp; omega
            clear hm hm2
            go_wp2_with fail
            go_loopw [14] (fun k wr => ∃ m : Nat, (m + 1 ≤ 4 ∨ m = 0) ∧ k = .int .i64 ((m : Int) + 1) ∧ Hid (Hd W wr [Blk (w2.heap.size + 1) (.cells #[.int .i64 ga, .int .i64 gk, .int .u64 gx, .int .u64 gy] 91 (0, 0)), Blk (w2.heap.size) (.cells #[.slice adD 4 capD] 85 (0, 0)), CaR (.slice adD 4 capD) E2, Blk (wo.heap.size) (.cells #[.int .i64 K, .int .i64 k1, .int .u64 0, .int .u64 0] 91 (0, 0)), CaR (.slice av es.length cv) es, Blk (W.heap.size) (.cells #[.slice av es.length cv] 85 (0, 0))])) (fun k _ => 4 - (intOf k).toNat)
            case atStart => exact ⟨0, .inr rfl, rfl, H⟩
            case round =>
              clear H
              obtain ⟨m, hm, rfl, H⟩ := hrel
              obtain ⟨wi, hwi⟩ : ∃ wi : World, wi = wr := ⟨_, rfl⟩
              rw [← hwi] at H ⊢
              clear hwi wr
              have zm0 : 0 ≤ (m : Int) := by omega
              have zm1 : (m : Int) ≤ 4 := by omega
              by_cases hm2 : m + 1 < 4
              · have dm : decide ((m : Int) + 1 < ((4 : Nat) : Int)) = true := by simp; omega
                have dm' : decide (m + 1 < 4) = true := by simp; omega
                have zm2 : (m : Int) + 1 < ((4 : Nat) : Int) := by omega
                obtain ⟨⟨fa, fk, fx, fy⟩, hf⟩ : ∃ f, E2[m]? = some f := ⟨E2[m]'(by have := HN2.out; omega), List.getElem?_eq_getElem _⟩
                obtain ⟨⟨ha, jk, jx, jy⟩, hh⟩ : ∃ f, E2[m + 1]? = some f := ⟨E2[m + 1]'(by have := HN2.out; omega), List.getElem?_eq_getElem _⟩
                have hlt := HR2.out.lt hf hh (by omega)
                dsimp only at hlt
                have dlt : decide (ha ≤ fa) = false := by simp; omega
                have hca := (H.out.front 2 rfl).ca
                obtain ⟨ad3, cap3, heq, hat, -⟩ := hca.ex
                simp only [Value.slice.injEq] at heq
                obtain ⟨heq, -, -⟩ := heq
                subst heq
                obtain ⟨g2, o2, heq, hc⟩ := hat m _ hf
                obtain ⟨g3, o3, heq3, hc3⟩ := hat (m + 1) _ hh
                subst heq
                simp only [Option.some.injEq, Addr.mk.injEq, and_true] at heq3
                obtain ⟨rfl, rfl⟩ := heq3
                have y0 := hc 0 _ rfl
                have y1 := hc3 0 _ rfl
                rw [Nat.add_zero] at y0 y1
                clear hc hc3 hat hca hf hh hlt
                have hk := Hd.nthk 1 H.out rfl
                have c0 := (cell_of_heap hk 0).trans (show _ = some (.slice (some ⟨g2, o2, none⟩) 4 capD) from rfl)
                have cs := (Array.getElem?_eq_some_iff.1 hk).1
                clear hk
                go_wp2_with fail
                go_region
                go_wp2_with fail
                go_roundw
                case rel => exact ⟨m + 1, .inl (by omega), by go_num, hid H.out.dr⟩
                case measure => simp [intOf]; omega
              · have dm : decide ((m : Int) + 1 < ((4 : Nat) : Int)) = false := by simp; omega
                have dm' : decide (m + 1 < 4) = false := by simp; omega
                have hk := Hd.nthk 1 H.out rfl
                have k0 := (cell_of_heap hk 0).trans (show _ = some (.slice adD 4 capD) from rfl)
                have ks := (Array.getElem?_eq_some_iff.1 hk).1
                clear hk
                have hk := Hd.nthk 5 H.out rfl
                have c0 := (cell_of_heap hk 0).trans (show _ = some (.slice av es.length cv) from rfl)
                have cs := (Array.getElem?_eq_some_iff.1 hk).1
                have cf := frozen_of_heap hk
                clear hk
                go_wp2_with fail
                go_roundw
                case rel => exact ⟨j + 1, .slice adD 4 capD, E2, by omega, by omega, by go_num, HR2, by have := HN2.out; omega, hid (Hd.dropEnd (Rs := [CaR (.slice adD 4 capD) E2, Blk W.heap.size (.cells #[.slice adD 4 capD] 85 (0, 0))]) (((H.out.front 5 rfl).set 0 (.slice adD 4 capD)).front 3 rfl))⟩
                case measure => simp [intOf]; omega
    · have hfix := fixed16_calls wo
      have HF := hid hfix
      clear hfix
      by_cases h1 : j < len0
      · have d1 : decide ((j : Int) < (len0 : Int)) = true := by simp; omega
        have d1' : decide (j < len0) = true := by simp; omega
        have d2 : decide ((j : Int) < 40) = false := by simp; omega
        have d2' : decide (j < 40) = false := by simp; omega
        clear hgo h1
        go_wp2_with fail
        refine HF.out.mono ?_
        rintro e w1 ⟨rfl, hb⟩
        go_wp2_with fail
        go_ret
        exact ⟨rfl, H.out.below.trans (hb.mono H.out.below.size)⟩
      · have d1 : decide ((j : Int) < (len0 : Int)) = false := by simp; omega
        have d1' : decide (j < len0) = false := by simp; omega
        clear hgo h1
        go_wp2_with fail
        refine HF.out.mono ?_
        rintro e w1 ⟨rfl, hb⟩
        go_wp2_with fail
        go_ret
        exact ⟨rfl, H.out.below.trans (hb.mono H.out.below.size)⟩
end Go.Proofs.Ytbaliaodioflfaa
