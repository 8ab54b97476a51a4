/-
  A walk through what a mind makes: makes, all. For every mind.
-/
import Derived.Test.YtbaliaodioflfaaKnowA
import Derived.Deep.LoopGhost
import Derived.Laws.EntriesVeiled
namespace Go.Proofs.Ytbaliaodioflfaa
open Go.RowKit

/-- The way in which a kind is made. -/
def wayF (k : Nat) : FuncId :=
  match k with
  | 1 => 111
  | 3 => 112
  | 4 => 113
  | 5 => 112
  | 6 => 114
  | 7 => 115
  | 8 => 116
  | 9 => 112
  | 10 => 117
  | 11 => 116
  | _ => 110

section
variable {W w : World} {hb lb cb pb kb mb N ck : Nat} {L : List T} {dh kem : Bool} {es : Array MapEntry} {cs : List Bool} {Rs : List Res}

theorem way_m (k : Nat) (s : ByteArray) (n a b c : Int) {x : Int} (hat : At L x ⟨k, s, n, a, b, c⟩) (h : MindAt w hb lb cb pb kb mb N L dh kem cs) :
    Calls Try.prog (wayF k) #[.pointer (some ⟨hb, 0, none⟩), .agg #[.int .i64 k, .string s, .int .u64 n, .int .i64 a, .int .i64 b, .int .i64 c]] w fun e w' => e = .returned (.bool (mkB L dh kem (on cs) ⟨k, s, n, a, b, c⟩)) ∧ Below w.heap.size w w' := by
  have hm := hat.may h.good
  have k1 := hm.1
  have k2 := hm.2.1
  have hp := hm.2.2.2.2.2
  dsimp only at k1 k2
  have hk : k = 1 ∨ k = 2 ∨ k = 3 ∨ k = 4 ∨ k = 5 ∨ k = 6 ∨ k = 7 ∨ k = 8 ∨ k = 9 ∨ k = 10 ∨ k = 11 := by omega
  rcases hk with rfl | rfl | rfl | rfl | rfl | rfl | rfl | rfl | rfl | rfl | rfl <;> simp [T.parts, many] at hp
  · exact text_m _ _ s n a b c w
  · exact none_m _ _ s n a b c w
  · exact one_m _ s n a b c h (by omega) hp.2
  · exact share_m _ s n a b c h (by omega) hp.1.2 (by omega) hp.2.2
  · exact one_m _ s n a b c h (by omega) hp.2
  · exact wrap_m _ s n a b c h (by omega) hp.1.2 (by omega) hp.2.2
  · exact kem_m _ s n a b c h (by omega) hp.1.2 (by omega) hp.2.2
  · exact both_m _ s n a b c h (by omega) hp.1.2 (by omega) hp.2.2
  · exact one_m _ s n a b c h (by omega) hp.2
  · exact seal_m _ s n a b c h (by omega) hp.1.2 (by omega) hp.2.1.2 (by omega) hp.2.2.2
  · exact both_m _ s n a b c h (by omega) hp.1.2 (by omega) hp.2.2

set_option maxRecDepth 100000 in
set_option maxHeartbeats 2000000 in
theorem makes_m (hd : Hd W w Rs) :
    Calls Try.prog 101 #[] w fun e w' => e = .returned (.agg #[.func (.func 110) #[] #[], .func (.func 111) #[] #[], .func (.func 110) #[] #[], .func (.func 112) #[] #[], .func (.func 113) #[] #[], .func (.func 112) #[] #[], .func (.func 114) #[] #[], .func (.func 115) #[] #[], .func (.func 116) #[] #[], .func (.func 112) #[] #[], .func (.func 117) #[] #[], .func (.func 116) #[] #[]]) ∧ Hd W w' Rs := by
  have H := hid hd
  clear hd
  go_enter Try.func101, Try.ntmps101
  go_wp2_with fail
  refine bodyPost_ret (v := .agg #[.func (.func 110) #[] #[], .func (.func 111) #[] #[], .func (.func 110) #[] #[], .func (.func 112) #[] #[], .func (.func 113) #[] #[], .func (.func 112) #[] #[], .func (.func 114) #[] #[], .func (.func 115) #[] #[], .func (.func 116) #[] #[], .func (.func 112) #[] #[], .func (.func 117) #[] #[], .func (.func 116) #[] #[]]) (by simp [results, Try.results101, go_sem]) rfl ⟨rfl, H.out.al⟩

theorem ways_at {g : Nat} (h : w.heap[g]? = some (.cells #[.func (.func 110) #[] #[], .func (.func 111) #[] #[], .func (.func 110) #[] #[], .func (.func 112) #[] #[], .func (.func 113) #[] #[], .func (.func 112) #[] #[], .func (.func 114) #[] #[], .func (.func 115) #[] #[], .func (.func 116) #[] #[], .func (.func 112) #[] #[], .func (.func 117) #[] #[], .func (.func 116) #[] #[]] 166 (0, 0))) (k : Nat) (hk : k < 12) : w.cell? ⟨g, k, none⟩ = some (.func (.func (wayF k)) #[] #[]) := by
  rw [cell_of_heap h]
  have : k = 0 ∨ k = 1 ∨ k = 2 ∨ k = 3 ∨ k = 4 ∨ k = 5 ∨ k = 6 ∨ k = 7 ∨ k = 8 ∨ k = 9 ∨ k = 10 ∨ k = 11 := by omega
  rcases this with rfl | rfl | rfl | rfl | rfl | rfl | rfl | rfl | rfl | rfl | rfl | rfl <;> rfl

theorem cf_way (k : Nat) (hk : k < 12) (args : Array Value) (w : World) : (callFunc (wayF k) args).run Try.prog w = .ok (.enter (wayF k) args) w := by
  have : k = 0 ∨ k = 1 ∨ k = 2 ∨ k = 3 ∨ k = 4 ∨ k = 5 ∨ k = 6 ∨ k = 7 ∨ k = 8 ∨ k = 9 ∨ k = 10 ∨ k = 11 := by omega
  rcases this with rfl | rfl | rfl | rfl | rfl | rfl | rfl | rfl | rfl | rfl | rfl | rfl <;> (show _ = _; kernel_rfl)

/-- What all leaves. -/
def AllPost (W : World) (hb lb cb pb kb mb N ck : Nat) (L : List T) (dh kem : Bool) (es : Array MapEntry) (K : Int → Prop) (Rs : List Res) (e : Ending) (w' : World) : Prop :=
  e = .returned (.tuple #[]) ∧ ∃ cs, (∀ x, on cs x = true ↔ Der L dh kem K x) ∧ MdOk L N es cs ∧ Hd W w' (Mind hb lb cb pb kb mb N L dh kem es ck cs Rs)

theorem Pass.step' {K : Int → Prop} {cs0 cs : List Bool} {q : Nat} {more : Bool} {t : T} (g : Good L) (h : Pass L dh kem K cs0 (q - 1) more cs) (hat : At L (q : Int) t) (hq : 1 ≤ q) :
    Pass L dh kem K cs0 (q + 1 - 1) (more || (visit L dh kem cs (q : Int) t).1) (visit L dh kem cs (q : Int) t).2 := by
  obtain ⟨n, rfl⟩ : ∃ n, q = n + 1 := ⟨q - 1, by omega⟩
  have := Pass.step g (n := n) h (t := t) (by simpa using hat)
  simpa using this
theorem on_lrn_self {cs : List Bool} {q : Nat} (h : q < cs.length) : on (lrn cs (q : Int)) (q : Int) = true := by
  rw [on_lrn (by omega) (by omega) (by omega)]; simp
theorem visit_on {t : T} {q : Nat} {cs : List Bool} (h : on cs (q : Int) = true) : visit L dh kem cs (q : Int) t = apt cs t := by simp [visit, h]
theorem visit_no {t : T} {q : Nat} {cs : List Bool} (h : on cs (q : Int) = false) (hm : mkB L dh kem (on cs) t = false) : visit L dh kem cs (q : Int) t = (false, cs) := by simp [visit, h, hm]
theorem visit_mk {t : T} {q : Nat} {cs : List Bool} (hq : q < cs.length) (h : on cs (q : Int) = false) (hm : mkB L dh kem (on cs) t = true) : visit L dh kem cs (q : Int) t = (true, (apt (lrn cs (q : Int)) t).2) := by
  simp [visit, h, hm, on_lrn_self hq]

theorem Lies.free {w : World} {k : Nat} {o : Obj} : ∀ (i : Nat) {Rs : List Res} {u : Nat → Prop}, Lies w u Rs → Rs[i]? = some (Blk k o) → ¬ u k
  | 0, A :: Rs, u, h, e => by
    have e2 : A = Blk k o := by simpa using e
    subst e2
    obtain ⟨f, hf, _, hd, _⟩ := h
    exact hd k (by rw [show f = _ from hf]; simp)
  | i + 1, A :: Rs, u, h, e => by
    obtain ⟨f, _, _, _, hr⟩ := h
    exact fun hu => Lies.free i hr (by simpa using e) (.inl hu)
  | _, [], _, _, e => by simp at e
/-- The first block is another one. -/
theorem Hd.apart {W w : World} {k k' : Nat} {o o' : Obj} {Rs : List Res} (i : Nat) (h : Hd W w (Blk k o :: Rs)) (e : Rs[i]? = some (Blk k' o')) : k ≠ k' := by
  obtain ⟨_, f, hf, _, _, hr⟩ := h
  have := Lies.free i hr e
  intro hk
  subst hk
  exact this (.inr (by rw [show f = _ from hf]; simp))

set_option maxRecDepth 100000 in
set_option maxHeartbeats 16000000 in
theorem all_m (K : Int → Prop) (hK : Marks L dh kem K cs) (ok : MdOk L N es cs) (hd : Hd W w (Mind hb lb cb pb kb mb N L dh kem es ck cs Rs)) :
    Calls Try.prog 81 #[.pointer (some ⟨hb, 0, none⟩)] w (AllPost W hb lb cb pb kb mb N ck L dh kem es K Rs) := by
  have H := hid hd
  have HK := hid hK
  have hN := ok.hN
  have hs := ok.small
  have gd := hid ok.good
  have bx := hid ok.box
  have HN := hid hN
  have hN2 : N ≤ 1048577 := by omega
  clear hd ok hK hN hs
  have key : ∀ cs', Marks L dh kem K cs' → MdOk L N es cs' := fun cs' h => ⟨gd.out, by have := HN.out; omega, HN.out, h.len, bx.out⟩
  have Key := hid key
  clear key
  go_enter Try.func81, Try.ntmps81
  go_wp2_with fail
  go_step3
  go_wp2_with fail
  refine (makes_m H.out).mono ?_
  rintro e w1 ⟨rfl, h1⟩
  have H1 := hid h1
  clear h1 H
  go_wp2_with fail
  have H2 := hid (H1.out.mbox (.cells #[.func (.func 110) #[] #[], .func (.func 111) #[] #[], .func (.func 110) #[] #[], .func (.func 112) #[] #[], .func (.func 113) #[] #[], .func (.func 112) #[] #[], .func (.func 114) #[] #[], .func (.func 115) #[] #[], .func (.func 116) #[] #[], .func (.func 112) #[] #[], .func (.func 117) #[] #[], .func (.func 116) #[] #[]] 166 (0, 0)) w1.heap.size rfl)
  obtain ⟨w2, hw2⟩ : ∃ w2, w2 = w1.alloc (.cells #[.func (.func 110) #[] #[], .func (.func 111) #[] #[], .func (.func 110) #[] #[], .func (.func 112) #[] #[], .func (.func 113) #[] #[], .func (.func 112) #[] #[], .func (.func 114) #[] #[], .func (.func 115) #[] #[], .func (.func 116) #[] #[], .func (.func 112) #[] #[], .func (.func 117) #[] #[], .func (.func 116) #[] #[]] 166 (0, 0)) := ⟨_, rfl⟩
  rw [← hw2] at H2 ⊢
  clear hw2 H1
  generalize w1.heap.size = Bw at *
  apply wp_label
  go_wp2_with fail
  go_loopg [3] (N - cnt cs) (fun g _more wr => ∃ cs0 : List Bool, g = N - cnt cs0 ∧ Hid (Marks L dh kem K cs0) ∧ Hid (Hd W wr (Mind hb lb cb pb kb mb N L dh kem es ck cs0 (Blk Bw (.cells #[.func (.func 110) #[] #[], .func (.func 111) #[] #[], .func (.func 110) #[] #[], .func (.func 112) #[] #[], .func (.func 113) #[] #[], .func (.func 112) #[] #[], .func (.func 114) #[] #[], .func (.func 115) #[] #[], .func (.func 116) #[] #[], .func (.func 112) #[] #[], .func (.func 117) #[] #[], .func (.func 116) #[] #[]] 166 (0, 0)) :: Rs))))
  case atStart => exact ⟨cs, rfl, HK, H2⟩
  case round =>
    clear H2 HK
    obtain ⟨cs0, hg, HK, H⟩ := hrel
    have Hg := hid hg
    clear hg
    obtain ⟨wo, hwo⟩ : ∃ wo : World, wo = wr := ⟨_, rfl⟩
    rw [← hwo] at H ⊢
    clear hwo wr
    go_wp2_with fail
    go_loopw [3, 4] (fun more i wr => ∃ q : Nat, 1 ≤ q ∧ q ≤ N ∧ i = .int .i64 q ∧ ∃ (m : Bool) (cs1 : List Bool), more = .bool m ∧ Hid (Pass L dh kem K cs0 (q - 1) m cs1) ∧ Hid (Hd W wr (Mind hb lb cb pb kb mb N L dh kem es ck cs1 (Blk Bw (.cells #[.func (.func 110) #[] #[], .func (.func 111) #[] #[], .func (.func 110) #[] #[], .func (.func 112) #[] #[], .func (.func 113) #[] #[], .func (.func 112) #[] #[], .func (.func 114) #[] #[], .func (.func 115) #[] #[], .func (.func 116) #[] #[], .func (.func 112) #[] #[], .func (.func 117) #[] #[], .func (.func 116) #[] #[]] 166 (0, 0)) :: Rs)))) (fun _ i _ => N - (intOf i).toNat)
    case atStart => exact ⟨1, Nat.le_refl _, by have := HN.out; omega, rfl, false, cs0, rfl, hid (Pass.start HK.out), H⟩
    case round =>
      clear H
      obtain ⟨q, hq1, hqN, rfl, m, cs1, rfl, HP, H⟩ := hrel
      have OkC := hid (Key.out _ HP.out.marks)
      have xq1 := hq1
      by_cases hlt : q < N
      · have hd1 : decide ((q : Int) < (N : Int)) = true := by simp; omega
        have hd1' : decide (q < N) = true := by simp; omega
        obtain ⟨t, hat⟩ : ∃ t, At L (q : Int) t := at_of (by omega) (by have := HN.out; omega)
        obtain ⟨k, s, n, a, b, c⟩ := t
        have hm := Hd.mindOk H.out OkC.out
        have hmay := hat.may hm.good
        have hk1 := hmay.1
        have hk2 := hmay.2.1
        dsimp only at hk1 hk2
        obtain ⟨k, rfl⟩ : ∃ i : Nat, k = i := ⟨k.toNat, by omega⟩
        have zk0 : (0 : Int) ≤ (k : Int) := by omega
        have zk1 : (k : Int) < 12 := by omega
        have hk12 : k < 12 := by omega
        have hg : (zeroT :: L)[q]? = some ⟨k, s, n, a, b, c⟩ := by
          have := hat.is
          obtain ⟨i, rfl⟩ : ∃ i, q = i + 1 := ⟨q - 1, by omega⟩
          simpa using this
        have c0 := hm.cl q _ hg 0 _ rfl
        have c1 := hm.cl q _ hg 1 _ rfl
        have c2 := hm.cl q _ hg 2 _ rfl
        have c3 := hm.cl q _ hg 3 _ rfl
        have c4 := hm.cl q _ hg 4 _ rfl
        have c5 := hm.cl q _ hg 5 _ rfl
        simp only [Nat.add_zero] at c0
        have k0 := hm.h0
        have zq0 : (0 : Int) ≤ (q : Int) := by omega
        have zq1 : (q : Int) < (N : Int) := by omega
        have xq : q < N := hlt
        have Hat := hid hat
        clear hm hmay hg hat hk1 hk2
        go_wp2_with fail
        obtain ⟨w3, hw3⟩ : ∃ w3, w3 = wr.alloc (.cells #[.int .i64 k, .string s, .int .u64 n, .int .i64 a, .int .i64 b, .int .i64 c] 76 (0, 0)) := ⟨_, rfl⟩
        have H3 : Hid (Hd W w3 (Mind hb lb cb pb kb mb N L dh kem es ck cs1 (Blk wr.heap.size (.cells #[.int .i64 k, .string s, .int .u64 n, .int .i64 a, .int .i64 b, .int .i64 c] 76 (0, 0)) :: Blk Bw (.cells #[.func (.func 110) #[] #[], .func (.func 111) #[] #[], .func (.func 110) #[] #[], .func (.func 112) #[] #[], .func (.func 113) #[] #[], .func (.func 112) #[] #[], .func (.func 114) #[] #[], .func (.func 115) #[] #[], .func (.func 116) #[] #[], .func (.func 112) #[] #[], .func (.func 117) #[] #[], .func (.func 116) #[] #[]] 166 (0, 0)) :: Rs))) := hid (by rw [hw3]; exact H.out.mbox _ _ rfl)
        rw [← hw3]
        clear hw3 c0 c1 c2 c3 c4 c5 k0 H
        generalize wr.heap.size = Bt at *
        obtain ⟨p, hq⟩ : ∃ zz, on cs1 (q : Int) = zz := ⟨_, rfl⟩
        have Ep := hid hq
        clear hq
        have hm := H3.out.mindOk OkC.out
        have hk := Hd.kth 6 H3.out rfl
        have hw := Hd.kth 7 H3.out rfl
        have k1 : ∀ x : Later w3, x.w.cell? ⟨hb, 1, none⟩ = some (.slice (some ⟨cb, 0, none⟩) N N) := fun x => x.cell hm.h1
        have ca : ∀ x : Later w3, x.w.cell? ⟨cb, q, none⟩ = some (.bool p) := fun x => x.cell (by rw [← Ep.out]; exact hm.cc q xq)
        have d0 : ∀ x : Later w3, x.w.cell? ⟨Bt, 0, none⟩ = some (.int .i64 (k : Int)) := fun x => x.cell (by rw [cell_of_heap hk]; rfl)
        have d1 : ∀ x : Later w3, x.w.cell? ⟨Bt, 1, none⟩ = some (.string s) := fun x => x.cell (by rw [cell_of_heap hk]; rfl)
        have d2 : ∀ x : Later w3, x.w.cell? ⟨Bt, 2, none⟩ = some (.int .u64 n) := fun x => x.cell (by rw [cell_of_heap hk]; rfl)
        have d3 : ∀ x : Later w3, x.w.cell? ⟨Bt, 3, none⟩ = some (.int .i64 a) := fun x => x.cell (by rw [cell_of_heap hk]; rfl)
        have d4 : ∀ x : Later w3, x.w.cell? ⟨Bt, 4, none⟩ = some (.int .i64 b) := fun x => x.cell (by rw [cell_of_heap hk]; rfl)
        have d5 : ∀ x : Later w3, x.w.cell? ⟨Bt, 5, none⟩ = some (.int .i64 c) := fun x => x.cell (by rw [cell_of_heap hk]; rfl)
        have wk : ∀ x : Later w3, x.w.cell? ⟨Bw, k, none⟩ = some (.func (.func (wayF k)) #[] #[]) := fun x => x.cell (ways_at hw k hk12)
        obtain ⟨mk, hq⟩ : ∃ zz, mkB L dh kem (on cs1) ⟨k, s, n, a, b, c⟩ = zz := ⟨_, rfl⟩
        have Hway : Hid (∀ x : Later w3, Calls Try.prog (wayF k) #[.pointer (some ⟨hb, 0, none⟩), .agg #[.int .i64 (k : Int), .string s, .int .u64 n, .int .i64 a, .int .i64 b, .int .i64 c]] x.w fun e w'' => e = .returned (.bool mk) ∧ ∃ y : Later w3, w'' = y.w) := hid fun x => by rw [← hq]; exact Calls.calm (way_m k s n a b c Hat.out (hm.later x.below))
        have Em := hid hq
        clear hq hm hk hw
        cases p
        · cases mk
          · refine wp_region_calm (by kernel_rfl) (by kernel_rfl) ?_
            repeat (go_big_quiet_step (((rw [cf_way k hk12]; exact ⟨rfl, Hway.out _⟩))))
            refine wpQuiet_nil ?_
            intro w4 hw4
            obtain ⟨⟨w4, hb4⟩, rfl⟩ := hw4
            have H4 := hid (H3.out.still hb4)
            clear k1 ca d0 d1 d2 d3 d4 d5 wk hb4 H3
            have hm := Hd.mindOk H4.out OkC.out
            have k1 := hm.h1
            have cq := hm.cc q xq
            rw [Ep.out] at cq
            have fq := frozen_of_heap (Hd.kth 0 H4.out rfl) q
            have lq := hm.lts.2.2.1
            clear hm
            go_wp2_with fail
            go_roundw
            case rel =>
              have hv := Pass.step' gd.out HP.out Hat.out xq1
              rw [show visit L dh kem cs1 (q : Int) ⟨k, s, n, a, b, c⟩ = (false, cs1) from visit_no Ep.out Em.out] at hv
              exact ⟨q + 1, by omega, by omega, by go_num, _, _, by simp, hid hv, hid H4.out.mun⟩
            case measure => simp [intOf]; omega
          · refine wp_region_calm (by kernel_rfl) (by kernel_rfl) ?_
            repeat (go_big_quiet_step (((rw [cf_way k hk12]; exact ⟨rfl, Hway.out _⟩))))
            refine wpQuiet_nil ?_
            intro w4 hw4
            obtain ⟨⟨w4, hb4⟩, rfl⟩ := hw4
            have H4 := hid (H3.out.still hb4)
            clear k1 ca d0 d1 d2 d3 d4 d5 wk hb4 H3
            have hm := Hd.mindOk H4.out OkC.out
            have k1 := hm.h1
            have cq := hm.cc q xq
            rw [Ep.out] at cq
            have fq := frozen_of_heap (Hd.kth 0 H4.out rfl) q
            have lq := hm.lts.2.2.1
            clear hm
            have hk := Hd.kth 6 H4.out rfl
            have d0 := (cell_of_heap hk 0).trans (show _ = some (.int .i64 (k : Int)) from rfl)
            have d1 := (cell_of_heap hk 1).trans (show _ = some (.string s) from rfl)
            have d2 := (cell_of_heap hk 2).trans (show _ = some (.int .u64 n) from rfl)
            have d3 := (cell_of_heap hk 3).trans (show _ = some (.int .i64 a) from rfl)
            have d4 := (cell_of_heap hk 4).trans (show _ = some (.int .i64 b) from rfl)
            have d5 := (cell_of_heap hk 5).trans (show _ = some (.int .i64 c) from rfl)
            clear hk
            have n1 := Hd.apart 5 H4.out rfl
            have n2 : Bt ≠ cb := fun e => n1 e.symm
            have n3 := Hd.apart 0 H4.out rfl
            have n4 : hb ≠ cb := fun e => n3 e.symm
            go_wp2_with fail
            have OkC := hid (OkC.out.lrn (q : Int))
            have H6 := hid (H4.out.set q (.bool true))
            rw [bools_set] at H6
            clear H4 n1 n2 n3 n4
            obtain ⟨r, hq⟩ : ∃ zz, (apt (lrn cs1 (q : Int)) ⟨k, s, n, a, b, c⟩).1 = zz := ⟨_, rfl⟩
            have Er := hid hq
            clear hq
            refine (apart_m k s n a b c Hat.out OkC.out H6.out).mono ?_
            rw [Er.out]
            rintro e w5 ⟨rfl, h5⟩
            have H5 := hid h5.mun
            clear h5 k1 cq fq lq d0 d1 d2 d3 d4 d5 H6
            cases r
            · go_wp2_with fail
              go_roundw
              case rel =>
                have hv := Pass.step' gd.out HP.out Hat.out xq1
                rw [show visit L dh kem cs1 (q : Int) ⟨k, s, n, a, b, c⟩ = (true, (apt (lrn cs1 (q : Int)) ⟨k, s, n, a, b, c⟩).2) from visit_mk (by rw [HP.out.marks.len, ← HN.out]; exact xq) Ep.out Em.out] at hv
                exact ⟨q + 1, by omega, by omega, by go_num, _, _, by simp, hid hv, H5⟩
              case measure => simp [intOf]; omega
            · go_wp2_with fail
              go_roundw
              case rel =>
                have hv := Pass.step' gd.out HP.out Hat.out xq1
                rw [show visit L dh kem cs1 (q : Int) ⟨k, s, n, a, b, c⟩ = (true, (apt (lrn cs1 (q : Int)) ⟨k, s, n, a, b, c⟩).2) from visit_mk (by rw [HP.out.marks.len, ← HN.out]; exact xq) Ep.out Em.out] at hv
                exact ⟨q + 1, by omega, by omega, by go_num, _, _, by simp, hid hv, H5⟩
              case measure => simp [intOf]; omega
        · refine wp_region_calm (by kernel_rfl) (by kernel_rfl) ?_
          repeat (go_big_quiet_step (fail))
          refine wpQuiet_nil ?_
          intro w4 hw4
          obtain ⟨⟨w4, hb4⟩, rfl⟩ := hw4
          have H4 := hid (H3.out.still hb4)
          clear k1 ca d0 d1 d2 d3 d4 d5 wk hb4 H3
          have hm := Hd.mindOk H4.out OkC.out
          have k1 := hm.h1
          have cq := hm.cc q xq
          rw [Ep.out] at cq
          have fq := frozen_of_heap (Hd.kth 0 H4.out rfl) q
          have lq := hm.lts.2.2.1
          clear hm
          have hk := Hd.kth 6 H4.out rfl
          have d0 := (cell_of_heap hk 0).trans (show _ = some (.int .i64 (k : Int)) from rfl)
          have d1 := (cell_of_heap hk 1).trans (show _ = some (.string s) from rfl)
          have d2 := (cell_of_heap hk 2).trans (show _ = some (.int .u64 n) from rfl)
          have d3 := (cell_of_heap hk 3).trans (show _ = some (.int .i64 a) from rfl)
          have d4 := (cell_of_heap hk 4).trans (show _ = some (.int .i64 b) from rfl)
          have d5 := (cell_of_heap hk 5).trans (show _ = some (.int .i64 c) from rfl)
          clear hk
          go_wp2_with fail
          obtain ⟨r, hq⟩ : ∃ zz, (apt cs1 ⟨k, s, n, a, b, c⟩).1 = zz := ⟨_, rfl⟩
          have Er := hid hq
          clear hq
          refine (apart_m k s n a b c Hat.out OkC.out H4.out).mono ?_
          rw [Er.out]
          rintro e w5 ⟨rfl, h5⟩
          have H5 := hid h5.mun
          clear h5 k1 cq fq lq d0 d1 d2 d3 d4 d5 H4
          cases r
          · go_wp2_with fail
            go_roundw
            case rel =>
              have hv := Pass.step' gd.out HP.out Hat.out xq1
              rw [show visit L dh kem cs1 (q : Int) ⟨k, s, n, a, b, c⟩ = apt cs1 ⟨k, s, n, a, b, c⟩ from visit_on Ep.out] at hv
              exact ⟨q + 1, by omega, by omega, by go_num, _, _, by rw [Er.out]; simp, hid hv, H5⟩
            case measure => simp [intOf]; omega
          · go_wp2_with fail
            go_roundw
            case rel =>
              have hv := Pass.step' gd.out HP.out Hat.out xq1
              rw [show visit L dh kem cs1 (q : Int) ⟨k, s, n, a, b, c⟩ = apt cs1 ⟨k, s, n, a, b, c⟩ from visit_on Ep.out] at hv
              exact ⟨q + 1, by omega, by omega, by go_num, _, _, by rw [Er.out]; simp, hid hv, H5⟩
            case measure => simp [intOf]; omega
      · obtain rfl : q = N := by omega
        have hd1 : decide ((q : Int) < (q : Int)) = false := by simp
        have hd1' : decide (q < q) = false := by simp
        have hm := Hd.mindOk H.out OkC.out
        have k0 := hm.h0
        clear hm
        cases m
        · go_wp2_with fail
          have hp := HP.out
          rw [show q - 1 = L.length from by have := HN.out; omega] at hp
          exact bodyPost_ret (v := .tuple #[]) (by simp [results, Try.results81, go_sem]) rfl ⟨rfl, cs1, hp.done, OkC.out, H.out.mun⟩
        · have hgr := HP.out.grew rfl
          have hcl := cnt_le cs1
          have Hlt : Hid (q - cnt cs1 < gk) := hid (by
            have h1 := Hg.out
            have h2 := HP.out.marks.len
            have h3 := HN.out
            omega)
          clear hgr hcl
          go_wp2_with fail
          go_roundg (q - cnt cs1)
          case rel => exact ⟨cs1, rfl, hid HP.out.marks, H⟩
          case measure => exact Hlt.out
end
end Go.Proofs.Ytbaliaodioflfaa
