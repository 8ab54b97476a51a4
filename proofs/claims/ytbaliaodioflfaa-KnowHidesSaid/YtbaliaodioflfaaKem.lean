/-
  Walks through layer 4: Public, there, Wrap, Open of the program. For every store and every names.
-/
import Derived.Test.YtbaliaodioflfaaHd2
import Derived.Test.YtbaliaodioflfaaPureL
namespace Go.Proofs.Ytbaliaodioflfaa
open Go.RowKit

set_option maxRecDepth 100000 in
set_option maxHeartbeats 1000000 in
theorem kpub_calls {W w : World} {Rs : List Res} {b : Nat} {L : List T} {m : Int} (x : Int) (h : Hd W w (Sto b L m :: Rs)) :
    Calls Try.prog 62 #[.pointer (some ⟨b, 0, none⟩), .int .i64 x] w fun e w' => e = .returned (.tuple #[.int .i64 (put m L (kpuT x)).1, .int .i64 (put m L (kpuT x)).2.1]) ∧ Hd W w' (Sto b (put m L (kpuT x)).2.2 m :: Rs) := by
  obtain ⟨r1, r2, L2, hq⟩ : ∃ r1 r2 L2, put m L (kpuT x) = (r1, r2, L2) := ⟨_, _, _, rfl⟩
  rw [hq]
  have Hq := hid hq
  have H := hid h
  clear hq h
  go_enter Try.func62, Try.ntmps62
  go_wp2_with fail
  refine (put_c 5 ⟨#[]⟩ 0 x 0 0 Hq (by first | exact H.out | exact H.out.al | exact H.out.al.al | exact H.out.al.al.al | exact H.out.al.al.al.al)).mono ?_
  rintro e w1 ⟨rfl, h1⟩
  replace H := hid h1
  clear h1
  go_wp2_with fail
  go_ret2
  exact ⟨rfl, H.out⟩

theorem arr_at {w : World} {k : Nat} {xs : List Int} {E : TypeId} (h : w.heap[k]? = some (.cells (ints xs).toArray E (0, 0))) {j : Nat} (hj : j < xs.length) : w.cell? ⟨k, 0 + j, none⟩ = some (.int .i64 (xs.getD j 0)) := by
  rw [Nat.zero_add]; exact ints_cell h hj

theorem all_true {xs : List Int} {p : Int → Bool} {j : Nat} (hj : j < xs.length) (h : (xs.take j).all p = true) (hp : p (xs.getD j 0) = true) : (xs.take (j + 1)).all p = true := by
  have e : xs.getD j 0 = xs[j] := by simp [List.getD, List.getElem?_eq_getElem hj]
  rw [List.take_succ_eq_append_getElem hj, List.all_append, h, ← e]
  simp only [List.all_cons, hp]; rfl
theorem all_false {xs : List Int} {p : Int → Bool} {j : Nat} (hj : j < xs.length) (h : p (xs.getD j 0) = false) : xs.all p = false := by
  have hm : xs.getD j 0 ∈ xs := by simp [List.getD, List.getElem?_eq_getElem hj]
  rw [List.all_eq_false]
  exact ⟨_, hm, by rw [h]; decide⟩

set_option maxRecDepth 100000 in
set_option maxHeartbeats 2000000 in
theorem there_calls {W w : World} {Rs : List Res} {b : Nat} {L : List T} {m : Int} {xs : List Int} {a : Option Addr} {n c : Nat} (ha : IntsAt w a xs) (hn : n = xs.length) (hmax : n ≤ 4611686018427387904) (h : Hd W w (Sto b L m :: Rs)) :
    Calls Try.prog 94 #[.pointer (some ⟨b, 0, none⟩), .slice a n c] w fun e w' => e = .returned (.bool (xs.all (getB L))) ∧ Hd W w' (Sto b L m :: Rs) := by
  obtain ⟨lb, db, mb, lc, dc, hs⟩ := h.sto
  have Hs := hid hs
  have Hn := hid hn
  have Ha := hid ha
  have H0 := hid h
  clear hs hn ha h
  go_enter Try.func94, Try.ntmps94
  go_wp2_with fail
  go_loopw [11] (fun i wr => ∃ j : Nat, j ≤ n ∧ i = .int .i64 j ∧ Hid (Below w.heap.size w wr) ∧ Hid ((xs.take j).all (getB L) = true)) (fun i _ => n - (intOf i).toNat)
  case atStart => exact ⟨0, Nat.zero_le _, rfl, hid (Below.refl _ _), hid rfl⟩
  case round =>
    obtain ⟨j, hj, rfl, Hb, Hall⟩ := hrel
    by_cases hlt : j < n
    · have d1 : decide (j < n) = true := by simpa using hlt
      have hjx : j < xs.length := by rw [← Hn.out]; exact hlt
      obtain ⟨g, o, rfl, hc⟩ := Ha.out.resolve_left fun e => by rw [e] at hjx; simp at hjx
      have c0 := (Hb.out.cell (p := ⟨g, o + j, none⟩) (World.block_lt_of_cell? w _ (hc j hjx))).trans (hc j hjx)
      have hf := @all_false xs (getB L) j hjx
      have ht := @all_true xs (getB L) j hjx Hall.out
      generalize xs.getD j 0 = x at *
      obtain ⟨k, s, n', a', b', c', hq⟩ : ∃ k s n a b c, getT L x = ⟨k, s, n, a, b, c⟩ := ⟨_, _, _, _, _, _, rfl⟩
      obtain ⟨is, hi⟩ : ∃ is, getB L x = is := ⟨_, rfl⟩
      rw [hi] at hf ht
      have Hq := hid hq
      have hj0 : (0 : Int) ≤ (j : Int) := by omega
      have hj1 : (j : Int) < (n : Int) := by omega
      clear hc hjx hq hlt
      rcases is with _ | _
      · have Hi := hid hi
        have Hf := hid (hf rfl)
        clear hf ht hi
        go_wp2_with fail
        refine (get_calls x (Hs.out.later Hb.out)).mono ?_
        rw [Hq.out, Hi.out]
        simp only [T.val]
        rintro e w1 ⟨rfl, hb1⟩
        have Hb1 := hid (Hb.out.trans (hb1.mono Hb.out.size))
        clear hb1 c0
        go_wp2_with fail
        go_ret
        rw [Hf.out]
        exact ⟨rfl, (H0.out.still Hb1.out).al⟩
      · have Hi := hid hi
        have Hf := hid (ht rfl)
        clear hf ht hi
        go_wp2_with fail
        refine (get_calls x (Hs.out.later Hb.out)).mono ?_
        rw [Hq.out, Hi.out]
        simp only [T.val]
        rintro e w1 ⟨rfl, hb1⟩
        have Hb1 := hid (Hb.out.trans (hb1.mono Hb.out.size))
        clear hb1 c0
        go_wp2_with fail
        go_roundw
        case rel => exact ⟨j + 1, by omega, by go_num, hid (Hb1.out.trans (((Below.refl _ _).alloc (Nat.le_refl _) _).mono Hb1.out.size)), Hf⟩
        case measure => simp [intOf]; omega
    · obtain rfl : j = n := by omega
      have d1 : decide (j < j) = false := by simp
      have Hy : Hid (xs.all (getB L) = true) := hid (by have := Hall.out; rwa [List.take_of_length_le (by rw [← Hn.out]; exact Nat.le_refl _)] at this)
      go_wp2_with fail
      go_ret
      rw [Hy.out]
      exact ⟨rfl, H0.out.still Hb.out⟩

set_option maxRecDepth 100000 in
set_option maxHeartbeats 4000000 in
theorem wrap_calls {W w : World} {Rs : List Res} {b : Nat} {L : List T} {m : Int} (p d : Int) (h : Hd W w (Sto b L m :: Rs)) :
    Calls Try.prog 63 #[.pointer (some ⟨b, 0, none⟩), .int .i64 p, .int .i64 d] w fun e w' => e = .returned (.tuple #[.int .i64 (wrap4 m L p d).1, .int .i64 (wrap4 m L p d).2.1, .int .i64 (wrap4 m L p d).2.2.1]) ∧ Hd W w' (Sto b (wrap4 m L p d).2.2.2 m :: Rs) := by
  have H := hid h
  clear h
  obtain ⟨k, s, n, a, b2, c, hq⟩ : ∃ k s n a b2 c, getT L p = ⟨k, s, n, a, b2, c⟩ := ⟨_, _, _, _, _, _, rfl⟩
  have Ht := hid hq
  clear hq
  obtain ⟨is, hq⟩ : ∃ is, getB L p = is := ⟨_, rfl⟩
  have Hi := hid hq
  clear hq
  obtain ⟨R, hR⟩ : ∃ R, wrap4 m L p d = R := ⟨_, rfl⟩
  rw [hR]
  have HR := hid hR
  clear hR
  by_cases hk : k = 5
  case neg =>
    have dK0 : (k != 5) = true := by simp [hk]
    have K := hid hk
    clear hk
    go_enter Try.func63, Try.ntmps63
    go_wp2_with fail
    refine (get_c p (by first | exact H.out | exact H.out.al | exact H.out.al.al | exact H.out.al.al.al | exact H.out.al.al.al.al)).mono ?_
    rw [Ht.out, Hi.out]
    simp only [T.val]
    rintro e w1 ⟨rfl, h1⟩
    replace H := hid h1
    clear h1
    go_wp2_with fail
    go_ret3
    have hR := HR.out
    simp [wrap4, Ht.out, K.out] at hR
    subst hR
    exact ⟨rfl, (by first | exact H.out | exact H.out.al | exact H.out.al.al | exact H.out.al.al.al | exact H.out.al.al.al.al)⟩
  have dK0 : (k != 5) = false := by simp [hk]
  have K := hid hk
  clear hk
  by_cases hk : getB L d = true
  case neg =>
    have D := hid hk
    clear hk
    go_enter Try.func63, Try.ntmps63
    go_wp2_with fail
    refine (get_c p (by first | exact H.out | exact H.out.al | exact H.out.al.al | exact H.out.al.al.al | exact H.out.al.al.al.al)).mono ?_
    rw [Ht.out, Hi.out]
    simp only [T.val]
    rintro e w2 ⟨rfl, h1⟩
    replace H := hid h1
    clear h1
    go_wp2_with fail
    refine (there_calls (xs := [d]) (.inr ⟨_, 0, rfl, fun j hj => ?_⟩) rfl (by simp) (by first | exact H.out.bx | exact H.out.bx.al | exact H.out.bx.al.al | exact H.out.al.bx)).mono ?_
    · exact arr_at (E := 3) (heap_at (by simp)) hj
    rw [show ([d] : List Int).all (getB L) = false from by simpa using D.out]
    rintro e w3 ⟨rfl, h1⟩
    replace H := hid h1
    clear h1
    go_wp2_with fail
    go_ret3
    have hR := HR.out
    simp [wrap4, D.out] at hR
    subst hR
    exact ⟨rfl, (by first | exact H.out.un2 | exact H.out.al.un2 | exact H.out.al.al.un2 | exact H.out.al.al.al.un2)⟩
  have D := hid hk
  clear hk
  go_enter Try.func63, Try.ntmps63
  go_wp2_with fail
  refine (get_c p (by first | exact H.out | exact H.out.al | exact H.out.al.al | exact H.out.al.al.al | exact H.out.al.al.al.al)).mono ?_
  rw [Ht.out, Hi.out]
  simp only [T.val]
  rintro e w4 ⟨rfl, h1⟩
  replace H := hid h1
  clear h1
  go_wp2_with fail
  refine (there_calls (xs := [d]) (.inr ⟨_, 0, rfl, fun j hj => ?_⟩) rfl (by simp) (by first | exact H.out.bx | exact H.out.bx.al | exact H.out.bx.al.al | exact H.out.al.bx)).mono ?_
  · exact arr_at (E := 3) (heap_at (by simp)) hj
  rw [show ([d] : List Int).all (getB L) = true from by simpa using D.out]
  rintro e w5 ⟨rfl, h1⟩
  replace H := hid h1
  clear h1
  obtain ⟨r1, r2, L2, hq⟩ : ∃ r1 r2 L2, put m L (boxT a d) = (r1, r2, L2) := ⟨_, _, _, rfl⟩
  have Hq1 := hid hq
  clear hq
  have hk0 := H.out.swap.blk
  have d3 := (cell_of_heap hk0 3).trans (show _ = some (.int .i64 a) from rfl)
  have lt0 := (Array.getElem?_eq_some_iff.1 hk0).1
  clear hk0
  go_wp2_with fail
  refine (put_c 6 ⟨#[]⟩ 0 a d 0 Hq1 (by first | exact H.out | exact H.out.al | exact H.out.al.al | exact H.out.al.al.al | exact H.out.al.al.al.al)).mono ?_
  rintro e w6 ⟨rfl, h1⟩
  replace H := hid h1
  clear h1 d3 lt0
  by_cases hk : r2 = 0
  case neg =>
    have dE10 : (r2 != 0) = true := by simp [hk]
    have E1 := hid hk
    clear hk
    go_wp2_with fail
    go_ret3
    have hR := HR.out
    simp [wrap4, Ht.out, K.out, D.out, Hq1.out, E1.out] at hR
    subst hR
    exact ⟨rfl, (by first | exact H.out.un2 | exact H.out.al.un2 | exact H.out.al.al.un2 | exact H.out.al.al.al.un2)⟩
  have dE10 : (r2 != 0) = false := by simp [hk]
  have E1 := hid hk
  clear hk
  obtain ⟨s1, s2, L3, hq⟩ : ∃ s1 s2 L3, put m L2 (kemT a d) = (s1, s2, L3) := ⟨_, _, _, rfl⟩
  have Hq2 := hid hq
  clear hq
  have hk0 := H.out.swap.blk
  have d3 := (cell_of_heap hk0 3).trans (show _ = some (.int .i64 a) from rfl)
  have lt0 := (Array.getElem?_eq_some_iff.1 hk0).1
  clear hk0
  go_wp2_with fail
  refine (put_c 7 ⟨#[]⟩ 0 a d 0 Hq2 (by first | exact H.out | exact H.out.al | exact H.out.al.al | exact H.out.al.al.al | exact H.out.al.al.al.al)).mono ?_
  rintro e w7 ⟨rfl, h1⟩
  replace H := hid h1
  clear h1 d3 lt0
  by_cases hk : s2 = 0
  case neg =>
    have dE20 : (s2 != 0) = true := by simp [hk]
    have E2 := hid hk
    clear hk
    go_wp2_with fail
    go_ret3
    have hR := HR.out
    simp [wrap4, Ht.out, K.out, D.out, Hq1.out, E1.out, Hq2.out, E2.out] at hR
    subst hR
    exact ⟨rfl, (by first | exact H.out.un2 | exact H.out.al.un2 | exact H.out.al.al.un2 | exact H.out.al.al.al.un2)⟩
  have dE20 : (s2 != 0) = false := by simp [hk]
  have E2 := hid hk
  clear hk
  go_wp2_with fail
  go_ret3
  have hR := HR.out
  simp [wrap4, Ht.out, K.out, D.out, Hq1.out, E1.out, Hq2.out, E2.out] at hR
  subst hR
  exact ⟨rfl, (by first | exact H.out.un2 | exact H.out.al.un2 | exact H.out.al.al.un2 | exact H.out.al.al.al.un2)⟩


end Go.Proofs.Ytbaliaodioflfaa
