/-
  A walk through begin: what one can make at once. For every store and every list of known names.
-/
import Derived.Test.YtbaliaodioflfaaKnowQ
import Derived.Test.YtbaliaodioflfaaArgsB
import Derived.StillTailTactics
namespace Go.Proofs.Ytbaliaodioflfaa
open Go.RowKit

/-- So many names lie there. -/
def KsIn (w : World) (ad : Option Addr) (ks : List Int) : Prop := ∀ (i : Nat) (z : Int), ks[i]? = some z → ∃ g o, ad = some ⟨g, o, none⟩ ∧ w.cell? ⟨g, o + i, none⟩ = some (.int .i64 z)
theorem KsIn.later {w w' : World} {ad : Option Addr} {ks : List Int} (h : KsIn w ad ks) (hb : Below w.heap.size w w') : KsIn w' ad ks := fun i z hi => by
  obtain ⟨g, o, ha, hc⟩ := h i z hi
  exact ⟨g, o, ha, (hb.cell (World.block_lt_of_cell? w _ hc)).trans hc⟩

theorem not_in_take {L : List T} {q : Nat} {t : T} (g : Good L) (hat : At L (q : Int) t) : t ∉ L.take (q - 1) := by
  intro h
  obtain ⟨i, hi, e⟩ := List.getElem_of_mem h
  have h1 : L[i]? = some t := by
    have := List.getElem?_eq_getElem hi
    rw [List.getElem?_take, e] at this
    split at this
    · exact this
    · cases this
  have h2 := g.nodup i _ t h1 hat.is
  have h3 : i < q - 1 := by simp at hi; omega
  have := hat.lo
  omega

/-- What begin leaves. -/
def BeginPost (L : List T) (dh kem : Bool) (ks : List Int) (w : World) (e : Ending) (w' : World) : Prop :=
  ((∀ x ∈ ks, 1 ≤ x ∧ x ≤ L.length) ∧ ∃ hb lb cb pb kb mb N es ck cs, e = .returned (.tuple #[.pointer (some ⟨hb, 0, none⟩), .bool true]) ∧ MdOk L N es cs ∧ Marks L dh kem (fun x => x ∈ ks) cs ∧ Hd w w' (Mind hb lb cb pb kb mb N L dh kem es ck cs [])) ∨
  (¬ (∀ x ∈ ks, 1 ≤ x ∧ x ≤ L.length) ∧ e = .returned (.tuple #[.pointer none, .bool false]) ∧ Below w.heap.size w w')

/-- The rows on the way. -/
abbrev Fill (hb lb cb pb kb mb N : Nat) (L : List T) (dh kem : Bool) (es : Array MapEntry) (ck q : Nat) (Rs : List Res) : List Res :=
  Blk lb (.cells (cellsOf (rowsT L N q)).toArray 76 (0, 0)) :: Blk cb (.cells (bools (List.replicate N false)).toArray 4 (0, 0)) :: Blk pb (.cells (ints (pubs (L.take (q - 1)) N)).toArray 3 (0, 0)) :: Blk kb (.cells (ints (kpus (L.take (q - 1)) N)).toArray 3 (0, 0)) ::
    Blk mb (.map es ck) :: Blk hb (mindHead lb cb pb kb mb N dh kem) :: Rs

section
variable {W w : World} {hb lb cb pb kb mb N ck q : Nat} {L : List T} {dh kem : Bool} {es : Array MapEntry} {Rs : List Res} {o : Obj} {A : Res}
theorem Hd.fbox (h : Hd W w (Fill hb lb cb pb kb mb N L dh kem es ck q Rs)) (o : Obj) (k : Nat) (hk : w.heap.size = k) : Hd W (w.alloc o) (Fill hb lb cb pb kb mb N L dh kem es ck q (Blk k o :: Rs)) := by
  subst hk
  refine Hd.perm ?_ (h.box o)
  exact (List.perm_middle (a := Blk w.heap.size o) (l₁ := [_, _, _, _, _, _]) (l₂ := Rs)).symm
theorem Hd.fun_ (h : Hd W w (Fill hb lb cb pb kb mb N L dh kem es ck q (A :: Rs))) : Hd W w (Fill hb lb cb pb kb mb N L dh kem es ck q Rs) := by
  refine (Hd.perm ?_ h).drop (A := A)
  exact (List.perm_middle (a := A) (l₁ := [_, _, _, _, _, _]) (l₂ := Rs))
end

set_option maxRecDepth 100000 in
set_option maxHeartbeats 16000000 in
theorem begin_m {b : Nat} {L : List T} {m : Int} {lb0 db0 mb0 lc0 dc0 : Nat} {w : World} (dh kem : Bool) (ad : Option Addr) (len cap : Nat) (ks : List Int) (hlen : len = ks.length) (hmax : len ≤ maxLen) (hks : KsIn w ad ks) (h : StoAt w b L m lb0 db0 mb0 lc0 dc0) :
    Calls Try.prog 80 #[.pointer (some ⟨b, 0, none⟩), .slice ad len cap, .agg #[.bool dh, .bool kem]] w (BeginPost L dh kem ks w) := by
  have hgd := hid h.good
  have hL : L.length ≤ 1048576 := by have := h.m1; have := h.len; omega
  have hs := hid h
  have Hlen := hid hlen
  have Hks := hid hks
  have Hmax := hid hmax
  obtain ⟨N, hN⟩ : ∃ N, N = L.length + 1 := ⟨_, rfl⟩
  have HN := hid hN
  have hN1 : N ≤ 1048577 := by omega
  have hN2 : 1 ≤ N := by omega
  have HNN : Hid ((L.length : Int) + 1 = (N : Int)) := hid (by omega)
  clear hks hlen hmax h hN
  go_enter Try.func80, Try.ntmps80
  go_wp2_with fail
  have hb1 : Below w.heap.size w (w.alloc (.cells #[.bool dh, .bool kem] 62 (0, 0))) := (Below.refl _ _).alloc (Nat.le_refl _) _
  refine (len_calls' (hs.out.later hb1)).mono ?_
  rintro e w1 ⟨rfl, rfl⟩
  go_wp2_with fail
  rw [HNN.out]
  have H1 := hid ((Hd.refl w).box (.cells #[.bool dh, .bool kem] 62 (0, 0)))
  have hk := H1.out.blk
  refine begin_made (W := w) (N := N) (B := w.heap.size) (dh := dh) (kem := kem) (by kernel_rfl) (by kernel_rfl) (by simp) hN1 rfl rfl (by rw [cell_of_heap hk]; rfl) (by rw [cell_of_heap hk]; rfl) H1.out ?_
  intro f w2 g hb2 hf9 hh
  simp only [patchG, Nat.reduceAdd, Nat.reduceLeDiff, Nat.reduceBEq, decide_true, decide_false, Bool.and_true, Bool.and_false, Bool.or_true, Bool.or_false, cond_true, cond_false, hf9]
  have H2 : Hid (Hd w w2 (Fill (g 11) (g 1) (g 3) (g 5) (g 7) (g 8) N L dh kem #[] 0 1 [Blk w.heap.size (.cells #[.bool dh, .bool kem] 62 (0, 0))])) := hid (by
    have := hh
    rw [rowsT_start L N hN2] at this
    simp only [Fill, List.take_zero, Nat.sub_self, pubs_start, kpus_start]
    exact this)
  clear hh hf9 hb2 hk H1 hb1
  generalize g 1 = lb at *
  generalize g 3 = cb at *
  generalize g 5 = pb at *
  generalize g 7 = kb at *
  generalize g 8 = mb at *
  generalize g 11 = hb at *
  generalize hfb : w.heap.size = fb at *
  generalize f 18 = f18
  generalize f 19 = f19
  generalize f 20 = f20
  generalize f 21 = f21
  generalize f 22 = f22
  generalize f 23 = f23
  generalize f 24 = f24
  generalize f 25 = f25
  generalize f 26 = f26
  generalize f 27 = f27
  generalize f 28 = f28
  generalize f 29 = f29
  clear f g
  go_wp2_with fail
  go_loopw [10] (fun i wr => ∃ q : Nat, 1 ≤ q ∧ q ≤ N ∧ i = .int .i64 q ∧ ∃ es ck bs, Hid (BoxIn es bs (L.take (q - 1))) ∧ Hid (Hd w wr (Fill hb lb cb pb kb mb N L dh kem es ck q [Blk fb (.cells #[.bool dh, .bool kem] 62 (0, 0))]))) (fun i _ => N - (intOf i).toNat)
  case atStart => exact ⟨1, Nat.le_refl _, hN2, rfl, #[], 0, [], hid boxIn_nil, H2⟩
  case round =>
    clear H2
    obtain ⟨q, hq1, hqN, rfl, es, ck, bs, HB, H⟩ := hrel
    by_cases hlt : q < N
    · have hd1 : decide ((q : Int) < (N : Int)) = true := by simp; omega
      have hd1' : decide (q < N) = true := by simp; omega
      obtain ⟨t, hat⟩ : ∃ t, At L (q : Int) t := at_of (by omega) (by have := HN.out; omega)
      obtain ⟨k, s, n, a, b', c⟩ := t
      have Hat := hid hat
      have hmay := hat.may hgd.out
      clear hat
      go_wp2_with fail
      refine (get_calls (q : Int) (hs.out.later H.out.below)).mono ?_
      rw [Hat.out.getT.1, Hat.out.getT.2]
      simp only [T.val]
      rintro e w3 ⟨rfl, hb3⟩
      have H3 := hid (H.out.still hb3)
      clear hb3 H
      go_wp2_with fail
      obtain ⟨X, hX⟩ : ∃ X, X = w3.alloc (.cells #[.int .i64 k, .string s, .int .u64 n, .int .i64 a, .int .i64 b', .int .i64 c] 76 (0, 0)) := ⟨_, rfl⟩
      have H4 : Hid (Hd w X (Fill hb lb cb pb kb mb N L dh kem es ck q [Blk w3.heap.size (.cells #[.int .i64 k, .string s, .int .u64 n, .int .i64 a, .int .i64 b', .int .i64 c] 76 (0, 0)), Blk fb (.cells #[.bool dh, .bool kem] 62 (0, 0))])) := hid (by rw [hX]; exact H3.out.fbox _ _ rfl)
      rw [← hX]
      clear hX H3
      generalize w3.heap.size = Bt at *
      have zq0 : (0 : Int) ≤ (q : Int) := by omega
      have zq1 : (q : Int) < (N : Int) := by omega
      have hz := rowsT_at hq1 hlt HN.out
      have hl := Hd.kth 0 H4.out rfl
      have o0 : X.cell? ⟨lb, q * 6, none⟩ = some (.int .i64 0) := by rw [cell_of_heap hl, List.getElem?_toArray]; exact cellsOf_get hz (j := 0) rfl
      have o1 : X.cell? ⟨lb, q * 6 + 1, none⟩ = some (.string ⟨#[]⟩) := by rw [cell_of_heap hl, List.getElem?_toArray]; exact cellsOf_get hz (j := 1) rfl
      have o2 : X.cell? ⟨lb, q * 6 + 2, none⟩ = some (.int .u64 0) := by rw [cell_of_heap hl, List.getElem?_toArray]; exact cellsOf_get hz (j := 2) rfl
      have o3 : X.cell? ⟨lb, q * 6 + 3, none⟩ = some (.int .i64 0) := by rw [cell_of_heap hl, List.getElem?_toArray]; exact cellsOf_get hz (j := 3) rfl
      have o4 : X.cell? ⟨lb, q * 6 + 4, none⟩ = some (.int .i64 0) := by rw [cell_of_heap hl, List.getElem?_toArray]; exact cellsOf_get hz (j := 4) rfl
      have o5 : X.cell? ⟨lb, q * 6 + 5, none⟩ = some (.int .i64 0) := by rw [cell_of_heap hl, List.getElem?_toArray]; exact cellsOf_get hz (j := 5) rfl
      have g0 : X.frozen? ⟨lb, q * 6, none⟩ = false := frozen_of_heap hl _
      have g1 : X.frozen? ⟨lb, q * 6 + 1, none⟩ = false := frozen_of_heap hl _
      have g2 : X.frozen? ⟨lb, q * 6 + 2, none⟩ = false := frozen_of_heap hl _
      have g3 : X.frozen? ⟨lb, q * 6 + 3, none⟩ = false := frozen_of_heap hl _
      have g4 : X.frozen? ⟨lb, q * 6 + 4, none⟩ = false := frozen_of_heap hl _
      have g5 : X.frozen? ⟨lb, q * 6 + 5, none⟩ = false := frozen_of_heap hl _
      have hh := Hd.kth 5 H4.out rfl
      have k0 := (cell_of_heap hh 0).trans (show _ = some (.slice (some ⟨lb, 0, none⟩) N N) from rfl)
      have ht := Hd.kth 6 H4.out rfl
      have d0 := (cell_of_heap ht 0).trans (show _ = some (.int .i64 k) from rfl)
      have d1 := (cell_of_heap ht 1).trans (show _ = some (.string s) from rfl)
      have d2 := (cell_of_heap ht 2).trans (show _ = some (.int .u64 n) from rfl)
      have d3 := (cell_of_heap ht 3).trans (show _ = some (.int .i64 a) from rfl)
      have d4 := (cell_of_heap ht 4).trans (show _ = some (.int .i64 b') from rfl)
      have d5 := (cell_of_heap ht 5).trans (show _ = some (.int .i64 c) from rfl)
      have Hmay := hid hmay
      clear hl hh ht hz hmay
      have hlq0 : ((L.take (q - 1)).length : Int) + 1 = (q : Int) := by
        have := HN.out
        simp only [List.length_take]
        omega
      have Hlq := hid hlq0
      clear hlq0
      by_cases h3 : k = 3
      · subst h3
        go_still_tail 7, (by kernel_rfl)
        change wpList _ _ _ _ _ X.drew
        go_wp2_with fail
        have H5 := hid ((((((((H4.out.set (q * 6) (.int .i64 3)).set (q * 6 + 1) (.string s)).set (q * 6 + 2) (.int .u64 n)).set (q * 6 + 3) (.int .i64 a)).set (q * 6 + 4) (.int .i64 b')).set (q * 6 + 5) (.int .i64 c))).dr)
        rw [row_set6 ⟨3, s, n, a, b', c⟩ _ q (by rw [rowsT_length HN.out hq1 hqN]; exact hlt), rowsT_step HN.out hq1 hlt Hat.out] at H5
        clear o0 o1 o2 o3 o4 o5 g0 g1 g2 g3 g4 g5 k0 d0 d1 d2 d3 d4 d5 H4
        obtain ⟨Y, hY⟩ : ∃ Y, ((((((X.setCell ⟨lb, q * 6, none⟩ (.int .i64 3)).setCell ⟨lb, q * 6 + 1, none⟩ (.string s)).setCell ⟨lb, q * 6 + 2, none⟩ (.int .u64 n)).setCell ⟨lb, q * 6 + 3, none⟩ (.int .i64 a)).setCell ⟨lb, q * 6 + 4, none⟩ (.int .i64 b')).setCell ⟨lb, q * 6 + 5, none⟩ (.int .i64 c)).drew = Y := ⟨_, rfl⟩
        rw [hY] at H5 ⊢
        clear hY
        have pa := parts_in hgd.out Hat.out (p := a) (by simp [T.parts, many])
        obtain ⟨a, rfl⟩ : ∃ i : Nat, a = i := ⟨a.toNat, by omega⟩
        have za0 : (0 : Int) ≤ (a : Int) := by omega
        have xa : a < N := by have := HN.out; omega
        have za1 : (a : Int) < (N : Int) := by omega
        have hh := Hd.kth 5 H5.out rfl
        have k2 := (cell_of_heap hh 2).trans (show _ = some (.slice (some ⟨pb, 0, none⟩) N N) from rfl)
        have ht := Hd.kth 6 H5.out rfl
        have d3 := (cell_of_heap ht 3).trans (show _ = some (.int .i64 (a : Int)) from rfl)
        have hp := Hd.kth 2 H5.out rfl
        have o0 : ∃ v, Y.cell? ⟨pb, a, none⟩ = some v := by
          rw [cell_of_heap hp]
          exact ⟨_, Array.getElem?_eq_getElem (by simp [ints, pubs, xa])⟩
        obtain ⟨v0, o0⟩ := o0
        have g0 : Y.frozen? ⟨pb, a, none⟩ = false := frozen_of_heap hp _
        have l0 := (Array.getElem?_eq_some_iff.1 hp).1
        clear hh ht hp
        go_still_tail 8, (by kernel_rfl)
        change wpList _ _ _ _ _ Y.drew
        go_wp2_with fail
        have H6 := hid ((((Hd.perm (List.perm_middle (l₁ := [_, _])) H5.out).set a (.int .i64 (q : Int))).dr))
        rw [ints_set] at H6
        have H7 := hid (Hd.perm (List.perm_middle (l₁ := [_, _])).symm H6.out)
        clear k2 d3 o0 g0 l0 H5 H6
        go_roundw
        case rel =>
          refine ⟨q + 1, by omega, by omega, by go_num, es, ck, bs, ?_, ?_⟩
          · rw [Nat.add_sub_cancel, take_succ_at Hat.out]
            exact hid (HB.out.same (not_in_take hgd.out Hat.out) (by simp))
          · have h7 := (Hd.perm (List.perm_middle (l₁ := [_, _, _, _, _, _])) H7.out).drop
            have ht := may_pub3 (Hat.out.may hgd.out) rfl
            have hn := not_in_take hgd.out Hat.out
            have e1 : (pubs (L.take (q - 1)) N).set a (q : Int) = pubs (L.take (q + 1 - 1)) N := by
              rw [Nat.add_sub_cancel, take_succ_at Hat.out, ← Hlq.out, ht]
              rw [ht] at hn
              exact pubs_step hn xa
            have e2 : kpus (L.take (q - 1)) N = kpus (L.take (q + 1 - 1)) N := by
              rw [Nat.add_sub_cancel, take_succ_at Hat.out]
              exact (kpus_same hn (by simp)).symm
            rw [e1, e2] at h7
            exact hid h7
        case measure => simp [intOf]; omega
      by_cases h5 : k = 5
      · subst h5
        go_still_tail 7, (by kernel_rfl)
        change wpList _ _ _ _ _ X.drew
        go_wp2_with fail
        have H5 := hid ((((((((H4.out.set (q * 6) (.int .i64 5)).set (q * 6 + 1) (.string s)).set (q * 6 + 2) (.int .u64 n)).set (q * 6 + 3) (.int .i64 a)).set (q * 6 + 4) (.int .i64 b')).set (q * 6 + 5) (.int .i64 c))).dr)
        rw [row_set6 ⟨5, s, n, a, b', c⟩ _ q (by rw [rowsT_length HN.out hq1 hqN]; exact hlt), rowsT_step HN.out hq1 hlt Hat.out] at H5
        clear o0 o1 o2 o3 o4 o5 g0 g1 g2 g3 g4 g5 k0 d0 d1 d2 d3 d4 d5 H4
        obtain ⟨Y, hY⟩ : ∃ Y, ((((((X.setCell ⟨lb, q * 6, none⟩ (.int .i64 5)).setCell ⟨lb, q * 6 + 1, none⟩ (.string s)).setCell ⟨lb, q * 6 + 2, none⟩ (.int .u64 n)).setCell ⟨lb, q * 6 + 3, none⟩ (.int .i64 a)).setCell ⟨lb, q * 6 + 4, none⟩ (.int .i64 b')).setCell ⟨lb, q * 6 + 5, none⟩ (.int .i64 c)).drew = Y := ⟨_, rfl⟩
        rw [hY] at H5 ⊢
        clear hY
        have pa := parts_in hgd.out Hat.out (p := a) (by simp [T.parts, many])
        obtain ⟨a, rfl⟩ : ∃ i : Nat, a = i := ⟨a.toNat, by omega⟩
        have za0 : (0 : Int) ≤ (a : Int) := by omega
        have xa : a < N := by have := HN.out; omega
        have za1 : (a : Int) < (N : Int) := by omega
        have hh := Hd.kth 5 H5.out rfl
        have k2 := (cell_of_heap hh 3).trans (show _ = some (.slice (some ⟨kb, 0, none⟩) N N) from rfl)
        have ht := Hd.kth 6 H5.out rfl
        have d3 := (cell_of_heap ht 3).trans (show _ = some (.int .i64 (a : Int)) from rfl)
        have hp := Hd.kth 3 H5.out rfl
        have o0 : ∃ v, Y.cell? ⟨kb, a, none⟩ = some v := by
          rw [cell_of_heap hp]
          exact ⟨_, Array.getElem?_eq_getElem (by simp [ints, kpus, xa])⟩
        obtain ⟨v0, o0⟩ := o0
        have g0 : Y.frozen? ⟨kb, a, none⟩ = false := frozen_of_heap hp _
        have l0 := (Array.getElem?_eq_some_iff.1 hp).1
        clear hh ht hp
        go_still_tail 8, (by kernel_rfl)
        change wpList _ _ _ _ _ Y.drew
        go_wp2_with fail
        have H6 := hid ((((Hd.perm (List.perm_middle (l₁ := [_, _, _])) H5.out).set a (.int .i64 (q : Int))).dr))
        rw [ints_set] at H6
        have H7 := hid (Hd.perm (List.perm_middle (l₁ := [_, _, _])).symm H6.out)
        clear k2 d3 o0 g0 l0 H5 H6
        go_roundw
        case rel =>
          refine ⟨q + 1, by omega, by omega, by go_num, es, ck, bs, ?_, ?_⟩
          · rw [Nat.add_sub_cancel, take_succ_at Hat.out]
            exact hid (HB.out.same (not_in_take hgd.out Hat.out) (by simp))
          · have h7 := (Hd.perm (List.perm_middle (l₁ := [_, _, _, _, _, _])) H7.out).drop
            have ht := may_kpu5 (Hat.out.may hgd.out) rfl
            have hn := not_in_take hgd.out Hat.out
            have e1 : (kpus (L.take (q - 1)) N).set a (q : Int) = kpus (L.take (q + 1 - 1)) N := by
              rw [Nat.add_sub_cancel, take_succ_at Hat.out, ← Hlq.out, ht]
              rw [ht] at hn
              exact kpus_step hn xa
            have e2 : pubs (L.take (q - 1)) N = pubs (L.take (q + 1 - 1)) N := by
              rw [Nat.add_sub_cancel, take_succ_at Hat.out]
              exact (pubs_same hn (by simp)).symm
            rw [e1, e2] at h7
            exact hid h7
        case measure => simp [intOf]; omega
      by_cases h6 : k = 6
      · subst h6
        go_still_tail 7, (by kernel_rfl)
        change wpList _ _ _ _ _ X.drew
        go_wp2_with fail
        have H5 := hid ((((((((H4.out.set (q * 6) (.int .i64 6)).set (q * 6 + 1) (.string s)).set (q * 6 + 2) (.int .u64 n)).set (q * 6 + 3) (.int .i64 a)).set (q * 6 + 4) (.int .i64 b')).set (q * 6 + 5) (.int .i64 c))).dr)
        rw [row_set6 ⟨6, s, n, a, b', c⟩ _ q (by rw [rowsT_length HN.out hq1 hqN]; exact hlt), rowsT_step HN.out hq1 hlt Hat.out] at H5
        clear o0 o1 o2 o3 o4 o5 g0 g1 g2 g3 g4 g5 k0 d0 d1 d2 d3 d4 d5 H4
        obtain ⟨Y, hY⟩ : ∃ Y, ((((((X.setCell ⟨lb, q * 6, none⟩ (.int .i64 6)).setCell ⟨lb, q * 6 + 1, none⟩ (.string s)).setCell ⟨lb, q * 6 + 2, none⟩ (.int .u64 n)).setCell ⟨lb, q * 6 + 3, none⟩ (.int .i64 a)).setCell ⟨lb, q * 6 + 4, none⟩ (.int .i64 b')).setCell ⟨lb, q * 6 + 5, none⟩ (.int .i64 c)).drew = Y := ⟨_, rfl⟩
        rw [hY] at H5 ⊢
        clear hY
        have pa := parts_in hgd.out Hat.out (p := a) (by simp [T.parts, many])
        have hh := Hd.kth 5 H5.out rfl
        have k4 := (cell_of_heap hh 4).trans (show _ = some (.map (some mb)) from rfl)
        have ht := Hd.kth 6 H5.out rfl
        have d3 := (cell_of_heap ht 3).trans (show _ = some (.int .i64 a) from rfl)
        have d4 := (cell_of_heap ht 4).trans (show _ = some (.int .i64 b') from rfl)
        have hm := Hd.kth 4 H5.out rfl
        have htb := may_box6 (Hat.out.may hgd.out) rfl
        have hnb := not_in_take hgd.out Hat.out
        rw [htb] at hnb
        have hmu := mapUpdate_K a b' (q : Int) Y.drew hm HB.out.rows (HB.out.new hnb)
        have Htb := hid htb
        have Hnb := hid hnb
        clear hh ht hm htb hnb
        go_still_tail 10, (by kernel_rfl)
        change wpList _ _ _ _ _ Y.drew
        go_wp2_with fail
        have H6 := hid ((Hd.perm (List.perm_middle (l₁ := [_, _, _, _])) H5.out).dr.setMap (.map (es.push { key := .agg #[.int .i64 a, .int .i64 b'], val := .int .i64 (q : Int), born := ck }) (ck + 1)))
        have H7 := hid (Hd.perm (List.perm_middle (l₁ := [_, _, _, _])).symm H6.out)
        clear k4 d3 d4 hmu H5 H6
        go_roundw
        case rel =>
          refine ⟨q + 1, by omega, by omega, by go_num, es.push { key := .agg #[.int .i64 a, .int .i64 b'], val := .int .i64 (q : Int), born := ck }, ck + 1, bs ++ [(a, b', (q : Int))], ?_, ?_⟩
          rotate_left
          · have h7 := (Hd.perm (List.perm_middle (l₁ := [_, _, _, _, _, _])) H7.out).drop
            have hn := not_in_take hgd.out Hat.out
            have e1 : pubs (L.take (q - 1)) N = pubs (L.take (q + 1 - 1)) N := by
              rw [Nat.add_sub_cancel, take_succ_at Hat.out]
              exact (pubs_same hn (by simp)).symm
            have e2 : kpus (L.take (q - 1)) N = kpus (L.take (q + 1 - 1)) N := by
              rw [Nat.add_sub_cancel, take_succ_at Hat.out]
              exact (kpus_same hn (by simp)).symm
            rw [e1, e2] at h7
            exact hid h7
          · have := HB.out.step (ck := ck) Hnb.out
            rw [Hlq.out, ← Htb.out, ← take_succ_at Hat.out] at this
            rw [Nat.add_sub_cancel]
            exact hid this
        case measure => simp [intOf]; omega
      have e3 : (k == 3) = false := by simpa using h3
      have e5 : (k == 5) = false := by simpa using h5
      have e6 : (k == 6) = false := by simpa using h6
      have Hk3 := hid h3
      have Hk5 := hid h5
      have Hk6 := hid h6
      clear h3 h5 h6
      go_still_tail 7, (by kernel_rfl)
      change wpList _ _ _ _ _ X.drew
      go_wp2_with fail
      have H5 := hid ((((((((H4.out.set (q * 6) (.int .i64 k)).set (q * 6 + 1) (.string s)).set (q * 6 + 2) (.int .u64 n)).set (q * 6 + 3) (.int .i64 a)).set (q * 6 + 4) (.int .i64 b')).set (q * 6 + 5) (.int .i64 c))).dr)
      rw [row_set6 ⟨k, s, n, a, b', c⟩ _ q (by rw [rowsT_length HN.out hq1 hqN]; exact hlt), rowsT_step HN.out hq1 hlt Hat.out] at H5
      clear o0 o1 o2 o3 o4 o5 g0 g1 g2 g3 g4 g5 k0 d0 d1 d2 d3 d4 d5 H4
      go_roundw
      case rel =>
        refine ⟨q + 1, by omega, by omega, by go_num, es, ck, bs, ?_, ?_⟩
        · rw [Nat.add_sub_cancel, take_succ_at Hat.out]
          exact hid (HB.out.same (not_in_take hgd.out Hat.out) Hk6.out)
        · have h7 := (Hd.perm (List.perm_middle (l₁ := [_, _, _, _, _, _])) H5.out).drop
          have hn := not_in_take hgd.out Hat.out
          have e1 : pubs (L.take (q - 1)) N = pubs (L.take (q + 1 - 1)) N := by
            rw [Nat.add_sub_cancel, take_succ_at Hat.out]
            exact (pubs_same hn Hk3.out).symm
          have e2 : kpus (L.take (q - 1)) N = kpus (L.take (q + 1 - 1)) N := by
            rw [Nat.add_sub_cancel, take_succ_at Hat.out]
            exact (kpus_same hn Hk5.out).symm
          rw [e1, e2] at h7
          exact hid h7
      case measure => simp [intOf]; omega
    · have hd1 : decide ((q : Int) < (N : Int)) = false := by simp; omega
      have hd1' : decide (q < N) = false := by simp; omega
      have hqe : q = N := by omega
      have H8 : Hid (Hd w wr (Blk lb (.cells (cellsOf (zeroT :: L)).toArray 76 (0, 0)) :: Blk cb (.cells (bools (List.replicate N false)).toArray 4 (0, 0)) :: Blk pb (.cells (ints (pubs L N)).toArray 3 (0, 0)) :: Blk kb (.cells (ints (kpus L N)).toArray 3 (0, 0)) :: Blk mb (.map es ck) :: Blk hb (mindHead lb cb pb kb mb N dh kem) :: [])) := hid (by
        have h8 := (Hd.perm (List.perm_middle (l₁ := [_, _, _, _, _, _])) H.out).drop
        rw [hqe, rowsT_end L N HN.out, show L.take (N - 1) = L from by rw [HN.out, Nat.add_sub_cancel, List.take_length]] at h8
        exact h8)
      have H9 := hid (Hd.perm (List.perm_middle (l₁ := [_])) H8.out)
      have H10 := hid (Hd.perm (List.Perm.cons _ (List.perm_middle (l₁ := [_, _, _, _]) (l₂ := []))) H9.out)
      have HB' : Hid (BoxOk es L) := hid (by
        have := HB.out.ok
        rw [hqe, show L.take (N - 1) = L from by rw [HN.out, Nat.add_sub_cancel, List.take_length]] at this
        exact this)
      clear H H8 H9 HB hqe
      obtain ⟨wo, hwo⟩ : ∃ wo : World, wo = wr := ⟨_, rfl⟩
      rw [← hwo] at H10 ⊢
      clear hwo wr
      have hlm : len ≤ 9223372036854775807 := by have := Hmax.out; unfold maxLen at this; exact this
      go_wp2_with fail
      go_loopw [84] (fun i wr => ∃ j : Nat, j ≤ len ∧ i = .int .i64 j ∧ ∃ cs, Hid (MarksOf N ks j cs) ∧ Hid (Hd w wr (Mind hb lb cb pb kb mb N L dh kem es ck cs []))) (fun i _ => len - (intOf i).toNat)
      case atStart => exact ⟨0, Nat.zero_le _, rfl, _, hid (marksOf_start N ks), H10⟩
      case round =>
        clear H10 hd1 hd1'
        obtain ⟨j, hj, rfl, cs, HM, H⟩ := hrel
        by_cases hjl : j < len
        · have hd1 : decide ((j : Int) < (len : Int)) = true := by simp; omega
          have hd1' : decide (j < len) = true := by simp; omega
          obtain ⟨z, hz⟩ : ∃ z, ks[j]? = some z := ⟨ks[j]'(by rw [← Hlen.out]; exact hjl), List.getElem?_eq_getElem _⟩
          obtain ⟨gg, oo, rfl, hc0⟩ := (Hks.out.later H.out.below) j z hz
          have zj0 : (0 : Int) ≤ (j : Int) := by omega
          have zj1 : (j : Int) < (len : Int) := by omega
          have Hz := hid hz
          clear hz
          by_cases hin : 1 ≤ z ∧ z < N
          · obtain ⟨z, rfl⟩ : ∃ i : Nat, z = i := ⟨z.toNat, by omega⟩
            have t1 : decide ((z : Int) < 1) = false := by simp; omega
            have t2 : decide ((N : Int) ≤ (z : Int)) = false := by simp; omega
            have t3 : decide (N ≤ z) = false := by simp; omega
            have zz0 : (0 : Int) ≤ (z : Int) := by omega
            have zz1 : (z : Int) < (N : Int) := by omega
            have xz : z < N := by omega
            have hh := Hd.kth 1 H.out rfl
            have k1 := (cell_of_heap hh 1).trans (show _ = some (.slice (some ⟨cb, 0, none⟩) N N) from rfl)
            have hp := Hd.kth 0 H.out rfl
            have o0 : ∃ v, wr.cell? ⟨cb, z, none⟩ = some v := by
              rw [cell_of_heap hp]
              exact ⟨_, Array.getElem?_eq_getElem (by simp [bools, HM.out.len, xz])⟩
            obtain ⟨v0, o0⟩ := o0
            have g0 : wr.frozen? ⟨cb, z, none⟩ = false := frozen_of_heap hp _
            have l0 := (Array.getElem?_eq_some_iff.1 hp).1
            have Hin := hid hin
            clear hh hp hin
            go_wp2_with fail
            have H11 := hid (H.out.set z (.bool true))
            rw [bools_set] at H11
            clear k1 o0 g0 l0 H
            go_roundw
            case rel => exact ⟨j + 1, by omega, by go_num, _, hid (HM.out.step Hz.out Hin.out.1 Hin.out.2), H11⟩
            case measure => simp [intOf]; omega
          · have Hno : Hid (¬ (∀ x ∈ ks, 1 ≤ x ∧ x ≤ L.length)) := hid fun hall => hin (by
              have := hall z (List.mem_of_getElem? Hz.out)
              have := HN.out
              omega)
            by_cases t1 : z < 1
            · have e1 : decide (z < 1) = true := by simpa using t1
              clear hin t1
              go_wp2_with fail
              go_ret2
              exact .inr ⟨Hno.out, rfl, H.out.below⟩
            · have e1 : decide (z < 1) = false := by simpa using t1
              have e2 : decide ((N : Int) ≤ z) = true := by simp; omega
              clear hin t1
              go_wp2_with fail
              go_ret2
              exact .inr ⟨Hno.out, rfl, H.out.below⟩
        · have hd1 : decide ((j : Int) < (len : Int)) = false := by simp; omega
          have hd1' : decide (j < len) = false := by simp; omega
          have Hj : Hid (j = ks.length) := hid (by rw [← Hlen.out]; omega)
          go_wp2_with fail
          go_ret2
          have hm := HM.out
          rw [Hj.out] at hm
          refine .inl ⟨fun x hx => ?_, hb, lb, cb, pb, kb, mb, N, es, ck, cs, rfl, ⟨hgd.out, hL, HN.out, by rw [hm.len, HN.out], HB'.out⟩, hm.marks HN.out, H.out⟩
          have := hm.inn x (by rw [List.take_length]; exact hx)
          have := HN.out
          omega
end Go.Proofs.Ytbaliaodioflfaa
