/-
  TermDoes returns true, and writes nothing that was there. For every input.
-/
import Derived.Test.YtfhpgcgiogmlgaaHd3
import Derived.Test.YtfhpgcgiogmlgaaArgsC
import Derived.Test.YtfhpgcgiogmlgaaLawB
import Derived.Test.YtfhpgcgiogmlgaaRel
import Derived.Test.YtfhpgcgiogmlgaaRDepth
import Derived.Test.YtfhpgcgiogmlgaaSame
namespace Go.Proofs.Ytfhpgcgiogmlgaa
open Go.RowKit

structure NsAt (w : World) (v : Value) (ks : List Int) : Prop where
  ex : ∃ ad cap, v = .slice ad ks.length cap ∧ IntsAt w ad ks
theorem NsAt.later {w w' : World} {v : Value} {ks : List Int} (h : NsAt w v ks) (hb : Below w.heap.size w w') : NsAt w' v ks := by
  obtain ⟨ad, cap, rfl, h1⟩ := h.ex
  exact ⟨ad, cap, rfl, h1.later hb⟩
/-- What is known of a value. -/
inductive Fact where
  | any
  | is (v : Value)
  | ints (ks : List Int)
def Fact.of : Fact → Value → World → Prop
  | .any, _, _ => True
  | .is u, v, _ => v = u
  | .ints ks, v, w => NsAt w v ks
theorem Fact.later : ∀ {F : Fact} {v : Value} {w w' : World}, F.of v w → Below w.heap.size w w' → F.of v w'
  | .any, _, _, _, _, _ => trivial
  | .is _, _, _, _, h, _ => h
  | .ints _, _, _, _, h, hb => NsAt.later h hb
theorem rparts_ns (k : Int) (s : ByteArray) (n a b c : Int) (w : World) :
    Calls Try.prog 26 #[.agg #[.int .i64 k, .string s, .int .u64 n, .int .i64 a, .int .i64 b, .int .i64 c]] w fun e w' =>
      ∃ v, e = .returned v ∧ NsAt w' v (T.parts ⟨k, s, n, a, b, c⟩) ∧ Below w.heap.size w w' := by
  refine (rparts_calls k s n a b c w).mono ?_
  rintro e w' ⟨g, rfl, hb, h0, h1, h2, _⟩
  refine ⟨_, rfl, ⟨some ⟨g, 0, none⟩, 3, by rw [parts_length], .inr ⟨g, 0, rfl, fun j hj => ?_⟩⟩, hb⟩
  rw [parts_length] at hj
  have hm := many_le k
  have : j = 0 ∨ j = 1 ∨ j = 2 := by dsimp only at hj; omega
  rw [Nat.zero_add]
  rcases this with rfl | rfl | rfl
  · rw [h0]; simp [T.parts, List.getD, hj]
  · rw [h1]; simp [T.parts, List.getD, hj]
  · rw [h2]; simp [T.parts, List.getD, hj]

set_option maxRecDepth 100000 in
set_option maxHeartbeats 64000000 in
theorem termDoes_walk (x0 : Int) (_b0 : -9223372036854775808 ≤ x0) (_b0' : x0 ≤ 9223372036854775807) (ad : Option Addr) (len cap : Nat) (ts : List T) (x2 : Int) (_b2 : -9223372036854775808 ≤ x2) (_b2' : x2 ≤ 9223372036854775807) (W : World) (hlen : len = ts.length) (hmax : len ≤ maxLen) (hts : TermsIn W ad ts) :
    Calls Try.prog 3 #[.int .i64 x0, .slice ad len cap, .int .i64 x2] W fun e w' => e = .returned (.bool true) ∧ Below W.heap.size W w' := by
  have mixed : Try.prog.follows .mixedOrders = true := by kernel_rfl
  have Hlen := hid hlen
  have Hts := hid hts
  unfold maxLen at hmax
  clear hts hlen _b0 _b0' _b2 _b2'
  by_cases hx : x0 < 0 ∨ 1048576 < x0
  · have hx2 := hid hx
    clear hx
    go_enter Try.func3, Try.ntmps3
    go_wp2_with fail
    refine (new_bad hx2.out).mono ?_
    rintro e w' ⟨rfl, rfl⟩
    go_wp2_with fail
    refine (rnew_bad hx2.out).mono ?_
    rintro e w' ⟨rfl, rfl⟩
    go_wp2_with fail
    go_loopw [11] (fun i wr => i = .int .i64 0 ∧ Hid (Hd W wr [])) (fun _ _ => 0)
    case atStart => exact ⟨rfl, hid (Hd.refl W)⟩
    case round =>
      obtain ⟨rfl, H⟩ := hrel
      go_wp2_with fail
      refine (fixed2_calls H.out).mono ?_
      rintro e w2 ⟨rfl, hd⟩
      clear H
      have H := hid hd
      clear hd
      go_wp2_with fail
      go_ret
      exact ⟨rfl, H.out.below⟩
  · have hx0 : 0 ≤ x0 := by omega
    have hx1 : x0 ≤ 1048576 := by omega
    clear hx
    go_enter Try.func3, Try.ntmps3
    go_wp2_with fail
    refine (new_calls (Hd.refl W) hx0 hx1).mono ?_
    rintro e w1 ⟨b, rfl, hd⟩
    have H := hid hd
    clear hd
    go_wp2_with fail
    refine (rnew_calls H.out hx0 hx1).mono ?_
    rintro e w2 ⟨b', rfl, hd⟩
    clear H
    have H := hid hd.swap
    clear hd
    go_wp2_with fail
    go_loopw [11] (fun i wr => ∃ j : Nat, j ≤ len ∧ i = .int .i64 j ∧ ∃ L, Hid (Hd W wr [Sto b L x0, RSto b' L x0])) (fun i _ => len - (intOf i).toNat)
    case atStart => exact ⟨0, Nat.zero_le _, rfl, [], H⟩
    case round =>
      clear H
      obtain ⟨j, hj, rfl, L, H⟩ := hrel
      by_cases hlt : j < len ∧ j < 40
      · have hd1 : decide (j < len) = true := by simpa using hlt.1
        have hd2 : decide ((j : Int) < 40) = true := by simp; omega
        obtain ⟨t, ht⟩ : ∃ t, ts[j]? = some t := ⟨ts[j]'(by rw [← Hlen.out]; exact hlt.1), List.getElem?_eq_getElem _⟩
        obtain ⟨g, o, rfl, hsz, hcell⟩ := (Hts.out.later H.out.below) j t ht
        obtain ⟨k, s, n, a, b2, c⟩ := t
        have c0 := hcell 0 _ rfl
        have c1 := hcell 1 _ rfl
        have c2 := hcell 2 _ rfl
        have c3 := hcell 3 _ rfl
        have c4 := hcell 4 _ rfl
        have c5 := hcell 5 _ rfl
        simp only [Nat.add_zero] at c0
        have hj0 : (0 : Int) ≤ (j : Int) := by omega
        have hj1 : (j : Int) < (len : Int) := by omega
        clear hcell ht hlt
        go_wp2_with fail
        refine (cut_calls k s n a b2 c _ hsz).mono ?_
        obtain ⟨k1, s1, n1, a1, b1, c1', hcut⟩ : ∃ k1 s1 n1 a1 b1 c1, T.cut ⟨k, s, n, a, b2, c⟩ = ⟨k1, s1, n1, a1, b1, c1⟩ := ⟨_, _, _, _, _, _, rfl⟩
        rw [hcut]
        simp only [T.val]
        rintro e w3 ⟨rfl, hb3⟩
        have H2 := hid (H.out.still hb3)
        clear hb3 c0 c1 c2 c3 c4 c5 hcut hsz H
        have H := H2
        clear H2
        obtain ⟨r1, r2, L2, hq⟩ : ∃ r1 r2 L2, put x0 L ⟨k1, s1, n1, a1, b1, c1'⟩ = (r1, r2, L2) := ⟨_, _, _, rfl⟩
        have HQ := hid hq
        clear hq
        go_wp2_with fail
        have H9 := hid ((H.out.box (.cells #[.int .i64 k1, .string s1, .int .u64 n1, .int .i64 a1, .int .i64 b1, .int .i64 c1'] 32 (0, 0))).front 1 rfl)
        clear H
        have H := H9
        clear H9
        refine (put_c k1 s1 n1 a1 b1 c1' HQ H.out).mono ?_
        rintro e w4 ⟨rfl, hd⟩
        clear H
        have H := hid hd
        clear hd
        have hk := Hd.nthk 1 H.out rfl
        have t0 := (cell_of_heap hk 0).trans (show _ = some (.int .i64 k1) from rfl)
        have t1 := (cell_of_heap hk 1).trans (show _ = some (.string s1) from rfl)
        have t2 := (cell_of_heap hk 2).trans (show _ = some (.int .u64 n1) from rfl)
        have t3 := (cell_of_heap hk 3).trans (show _ = some (.int .i64 a1) from rfl)
        have t4 := (cell_of_heap hk 4).trans (show _ = some (.int .i64 b1) from rfl)
        have t5 := (cell_of_heap hk 5).trans (show _ = some (.int .i64 c1') from rfl)
        have ts := (Array.getElem?_eq_some_iff.1 hk).1
        clear hk
        go_wp2_with fail
        refine (ref_agg k1 s1 n1 a1 b1 c1' _).mono ?_
        rintro e w5 ⟨rfl, hb5⟩
        have H9 := hid ((H.out.still hb5).front 2 rfl)
        clear t0 t1 t2 t3 t4 t5 ts H hb5
        have H := H9
        clear H9
        go_wp2_with fail
        refine (rput_c k1 s1 n1 a1 b1 c1' HQ H.out).mono ?_
        rintro e w6 ⟨rfl, hd⟩
        clear H
        have H := hid hd
        clear hd
        go_wp2_with fail
        obtain ⟨lb, db, mb, lc, dc, hs⟩ := (H.out.front 1 rfl).sto
        have HS := hid hs
        clear hs
        obtain ⟨ra, rc, hr⟩ := (H.out.front 0 rfl).rsto
        have kR := hr.c0
        have HR := hid hr
        clear hr
        have kT0 := (cell_of_heap (Hd.nthk 2 H.out rfl) 0).trans (show _ = some (.int .i64 k1) from rfl)
        have kT1 := (cell_of_heap (Hd.nthk 2 H.out rfl) 1).trans (show _ = some (.string s1) from rfl)
        have kT2 := (cell_of_heap (Hd.nthk 2 H.out rfl) 2).trans (show _ = some (.int .u64 n1) from rfl)
        have kT3 := (cell_of_heap (Hd.nthk 2 H.out rfl) 3).trans (show _ = some (.int .i64 a1) from rfl)
        have kT4 := (cell_of_heap (Hd.nthk 2 H.out rfl) 4).trans (show _ = some (.int .i64 b1) from rfl)
        have kT5 := (cell_of_heap (Hd.nthk 2 H.out rfl) 5).trans (show _ = some (.int .i64 c1') from rfl)
        have cf20 : ∀ args w, (callFunc 20 args).run Try.prog w = .ok (.enter 20 args) w := fun args w => by kernel_rfl
        have cf21 : ∀ args w, (callFunc 21 args).run Try.prog w = .ok (.enter 21 args) w := fun args w => by kernel_rfl
        have cf22 : ∀ args w, (callFunc 22 args).run Try.prog w = .ok (.enter 22 args) w := fun args w => by kernel_rfl
        have cf23 : ∀ args w, (callFunc 23 args).run Try.prog w = .ok (.enter 23 args) w := fun args w => by kernel_rfl
        have cf24 : ∀ args w, (callFunc 24 args).run Try.prog w = .ok (.enter 24 args) w := fun args w => by kernel_rfl
        have cf25 : ∀ args w, (callFunc 25 args).run Try.prog w = .ok (.enter 25 args) w := fun args w => by kernel_rfl
        have cf26 : ∀ args w, (callFunc 26 args).run Try.prog w = .ok (.enter 26 args) w := fun args w => by kernel_rfl
        refine wp_region_rel ([] :: [] :: [0, 1] :: [2] :: [3] :: [3] :: [3, 4, 5] :: [3, 6] :: [7] :: [8] :: [8] :: [8, 9, 10] :: [8] :: [8] :: [8, 12, 13] :: [8, 11, 14] :: [8, 15] :: [16] :: [17] :: [17, 18] :: [17] :: [17, 20] :: [17, 21] :: [17, 22] :: [17, 23] :: [17, 19, 24] :: [17, 25] :: [26] :: [27] :: [27, 28] :: [27] :: [27, 30] :: [27, 31] :: [27, 29, 32] :: [27, 33] :: [27, 34] :: []) (77 :: 78 :: 79 :: 80 :: 81 :: 82 :: 83 :: 84 :: 85 :: 86 :: 87 :: 88 :: 89 :: 90 :: 91 :: 92 :: 93 :: 94 :: 95 :: 96 :: 97 :: 98 :: 99 :: 100 :: 101 :: 102 :: 103 :: 104 :: 105 :: 106 :: 107 :: 108 :: 109 :: 110 :: 111 :: 112 :: []) (fun i v w => ((
            .is (.int .i64 r1) ::
            .is (.int .i64 r1) ::
            .is (.bool false) ::
            .is (.bool false) ::
            .is (.int .i64 r2) ::
            .is (.int .i64 r2) ::
            .is (.bool false) ::
            .is (.bool false) ::
            .is (.bool false) ::
            .is (.pointer (some ⟨b, 0, none⟩)) ::
            .is (.int .i64 r1) ::
            .is (.int .i64 (depth L2 r1)) ::
            .is (.pointer (some ⟨b', 0, none⟩)) ::
            .is (.int .i64 r1) ::
            .is (.int .i64 (depth L2 r1)) ::
            .is (.bool false) ::
            .is (.bool false) ::
            .is (.bool false) ::
            .is (.pointer (some ⟨b, 0, none⟩)) ::
            .is (.int .i64 (L2.length : Nat)) ::
            .is (.pointer (some ⟨b', 0, none⟩)) ::
            .is (.pointer (some ⟨b', 0, none⟩)) ::
            .is (.pointer (some ⟨b', 0, none⟩)) ::
            .is (.slice ra L2.length rc) ::
            .is (.int .i64 (L2.length : Nat)) ::
            .is (.bool false) ::
            .is (.bool false) ::
            .is (.bool false) ::
            .is (.agg #[.int .i64 k1, .string s1, .int .u64 n1, .int .i64 a1, .int .i64 b1, .int .i64 c1']) ::
            .ints (T.parts ⟨k1, s1, n1, a1, b1, c1'⟩) ::
            .is (.agg #[.int .i64 k1, .string s1, .int .u64 n1, .int .i64 a1, .int .i64 b1, .int .i64 c1']) ::
            .is (.agg #[.int .i64 k1, .string s1, .int .u64 n1, .int .i64 a1, .int .i64 b1, .int .i64 c1']) ::
            .ints (T.parts ⟨k1, s1, n1, a1, b1, c1'⟩) ::
            .is (.bool true) ::
            .is (.bool false) ::
            .is (.bool false) :: ([] : List Fact)).getD i .any).of v w) (by kernel_rfl) (by kernel_rfl) (fun d hd => Nat.lt_of_lt_of_eq (rel_lt (n := 163) (by decide) d hd) rfl) ?_ ?_ ?_ (fun t => decide (77 ≤ t) && decide (t ≤ 112)) (by decide) ?_
        · repeat (refine StepAll.cons (by first | exact trivial | exact fun v w h => h) ?_)
          exact trivial
        · intro i v w x h hb
          exact Fact.later h hb
        ·
          refine StepAll.cons ?_ ?_
          · intro a wx hn hr hb K hK
            have ec := evc a
            have e13 : a.eval (.tmp 13) = .int .i64 r1 := (hr 13 (by decide)).trans rfl
            exact rel_run (v := .int .i64 r1) (by clear hn hr hK; generalize a.eval = ρ at *; simp [execOp, e13, go_sem]) rfl (Below.refl _ _) hK
          refine StepAll.cons ?_ ?_
          · intro a wx hn hr hb K hK
            have ec := evc a
            have e15 : a.eval (.tmp 15) = .int .i64 r1 := (hr 15 (by decide)).trans rfl
            exact rel_run (v := .int .i64 r1) (by clear hn hr hK; generalize a.eval = ρ at *; simp [execOp, e15, go_sem]) rfl (Below.refl _ _) hK
          refine StepAll.cons ?_ ?_
          · intro a wx hn hr hb K hK
            have ec := evc a
            have e77 : a.eval (.tmp 77) = .int .i64 r1 := hn 0 (by decide)
            have e78 : a.eval (.tmp 78) = .int .i64 r1 := hn 1 (by decide)
            exact rel_run (v := .bool false) (by clear hn hr hK; generalize a.eval = ρ at *; simp [execOp, e77, e78, go_sem]) rfl (Below.refl _ _) hK
          refine StepAll.cons ?_ ?_
          · intro a wx hn hr hb K hK
            have ec := evc a
            have e79 : a.eval (.tmp 79) = .bool false := hn 2 (by decide)
            exact rel_run (v := .bool false) (by clear hn hr hK; generalize a.eval = ρ at *; simp [execOp, e79, go_sem]) rfl (Below.refl _ _) hK
          refine StepAll.cons ?_ ?_
          · intro a wx hn hr hb K hK
            have ec := evc a
            have e14 : a.eval (.tmp 14) = .int .i64 r2 := (hr 14 (by decide)).trans rfl
            exact rel_run (v := .int .i64 r2) (by clear hn hr hK; generalize a.eval = ρ at *; simp [execOp, e14, go_sem]) rfl (Below.refl _ _) hK
          refine StepAll.cons ?_ ?_
          · intro a wx hn hr hb K hK
            have ec := evc a
            have e16 : a.eval (.tmp 16) = .int .i64 r2 := (hr 16 (by decide)).trans rfl
            exact rel_run (v := .int .i64 r2) (by clear hn hr hK; generalize a.eval = ρ at *; simp [execOp, e16, go_sem]) rfl (Below.refl _ _) hK
          refine StepAll.cons ?_ ?_
          · intro a wx hn hr hb K hK
            have ec := evc a
            have e81 : a.eval (.tmp 81) = .int .i64 r2 := hn 4 (by decide)
            have e82 : a.eval (.tmp 82) = .int .i64 r2 := hn 5 (by decide)
            exact rel_run (v := .bool false) (by clear hn hr hK; generalize a.eval = ρ at *; simp [execOp, e81, e82, go_sem]) rfl (Below.refl _ _) hK
          refine StepAll.cons ?_ ?_
          · intro a wx hn hr hb K hK
            have ec := evc a
            have e80 : a.eval (.tmp 80) = .bool false := hn 3 (by decide)
            have e83 : a.eval (.tmp 83) = .bool false := hn 6 (by decide)
            exact rel_run (v := .bool false) (by clear hn hr hK; generalize a.eval = ρ at *; simp [execOp, e80, e83, go_sem]) rfl (Below.refl _ _) hK
          refine StepAll.cons ?_ ?_
          · intro a wx hn hr hb K hK
            have ec := evc a
            have e84 : a.eval (.tmp 84) = .bool false := hn 7 (by decide)
            exact rel_run (v := .bool false) (by clear hn hr hK; generalize a.eval = ρ at *; simp [execOp, e84, go_sem]) rfl (Below.refl _ _) hK
          refine StepAll.cons ?_ ?_
          · intro a wx hn hr hb K hK
            have ec := evc a
            have e7 : a.eval (.tmp 7) = .pointer (some ⟨b, 0, none⟩) := (hr 7 (by decide)).trans rfl
            exact rel_run (v := .pointer (some ⟨b, 0, none⟩)) (by clear hn hr hK; generalize a.eval = ρ at *; simp [execOp, e7, go_sem]) rfl (Below.refl _ _) hK
          refine StepAll.cons ?_ ?_
          · intro a wx hn hr hb K hK
            have ec := evc a
            have e13 : a.eval (.tmp 13) = .int .i64 r1 := (hr 13 (by decide)).trans rfl
            exact rel_run (v := .int .i64 r1) (by clear hn hr hK; generalize a.eval = ρ at *; simp [execOp, e13, go_sem]) rfl (Below.refl _ _) hK
          refine StepAll.cons ?_ ?_
          · intro a wx hn hr hb K hK
            have ec := evc a
            have e86 : a.eval (.tmp 86) = .pointer (some ⟨b, 0, none⟩) := hn 9 (by decide)
            have e87 : a.eval (.tmp 87) = .int .i64 r1 := hn 10 (by decide)
            have ef : a.eval (.func 21) = .func (.func 21) #[] #[] := rfl
            exact rel_call (by clear hn hr hK; generalize a.eval = ρ at *; simp [execOp, e86, e87, cf21, ef, go_sem]) ((depth_calls r1 (HS.out.later hb)).mono (fun e w2 h => ⟨_, h.1, rfl, h.2 ▸ Below.refl _ _⟩)) hK
          refine StepAll.cons ?_ ?_
          · intro a wx hn hr hb K hK
            have ec := evc a
            have e9 : a.eval (.tmp 9) = .pointer (some ⟨b', 0, none⟩) := (hr 9 (by decide)).trans rfl
            exact rel_run (v := .pointer (some ⟨b', 0, none⟩)) (by clear hn hr hK; generalize a.eval = ρ at *; simp [execOp, e9, go_sem]) rfl (Below.refl _ _) hK
          refine StepAll.cons ?_ ?_
          · intro a wx hn hr hb K hK
            have ec := evc a
            have e15 : a.eval (.tmp 15) = .int .i64 r1 := (hr 15 (by decide)).trans rfl
            exact rel_run (v := .int .i64 r1) (by clear hn hr hK; generalize a.eval = ρ at *; simp [execOp, e15, go_sem]) rfl (Below.refl _ _) hK
          refine StepAll.cons ?_ ?_
          · intro a wx hn hr hb K hK
            have ec := evc a
            have e89 : a.eval (.tmp 89) = .pointer (some ⟨b', 0, none⟩) := hn 12 (by decide)
            have e90 : a.eval (.tmp 90) = .int .i64 r1 := hn 13 (by decide)
            have ef : a.eval (.func 22) = .func (.func 22) #[] #[] := rfl
            exact rel_call (by clear hn hr hK; generalize a.eval = ρ at *; simp [execOp, e89, e90, cf22, ef, go_sem]) ((rdepth_calls r1 (HR.out.later hb)).mono (fun e w2 h => ⟨_, h.1, rfl, h.2⟩)) hK
          refine StepAll.cons ?_ ?_
          · intro a wx hn hr hb K hK
            have ec := evc a
            have e88 : a.eval (.tmp 88) = .int .i64 (depth L2 r1) := hn 11 (by decide)
            have e91 : a.eval (.tmp 91) = .int .i64 (depth L2 r1) := hn 14 (by decide)
            exact rel_run (v := .bool false) (by clear hn hr hK; generalize a.eval = ρ at *; simp [execOp, e88, e91, go_sem]) rfl (Below.refl _ _) hK
          refine StepAll.cons ?_ ?_
          · intro a wx hn hr hb K hK
            have ec := evc a
            have e85 : a.eval (.tmp 85) = .bool false := hn 8 (by decide)
            have e92 : a.eval (.tmp 92) = .bool false := hn 15 (by decide)
            exact rel_run (v := .bool false) (by clear hn hr hK; generalize a.eval = ρ at *; simp [execOp, e85, e92, go_sem]) rfl (Below.refl _ _) hK
          refine StepAll.cons ?_ ?_
          · intro a wx hn hr hb K hK
            have ec := evc a
            have e93 : a.eval (.tmp 93) = .bool false := hn 16 (by decide)
            exact rel_run (v := .bool false) (by clear hn hr hK; generalize a.eval = ρ at *; simp [execOp, e93, go_sem]) rfl (Below.refl _ _) hK
          refine StepAll.cons ?_ ?_
          · intro a wx hn hr hb K hK
            have ec := evc a
            have e7 : a.eval (.tmp 7) = .pointer (some ⟨b, 0, none⟩) := (hr 7 (by decide)).trans rfl
            exact rel_run (v := .pointer (some ⟨b, 0, none⟩)) (by clear hn hr hK; generalize a.eval = ρ at *; simp [execOp, e7, go_sem]) rfl (Below.refl _ _) hK
          refine StepAll.cons ?_ ?_
          · intro a wx hn hr hb K hK
            have ec := evc a
            have e95 : a.eval (.tmp 95) = .pointer (some ⟨b, 0, none⟩) := hn 18 (by decide)
            have ef : a.eval (.func 23) = .func (.func 23) #[] #[] := rfl
            exact rel_call (by clear hn hr hK; generalize a.eval = ρ at *; simp [execOp, e95, cf23, ef, go_sem]) ((len_calls' (HS.out.later hb)).mono (fun e w2 h => ⟨_, h.1, rfl, h.2 ▸ Below.refl _ _⟩)) hK
          refine StepAll.cons ?_ ?_
          · intro a wx hn hr hb K hK
            have ec := evc a
            have e9 : a.eval (.tmp 9) = .pointer (some ⟨b', 0, none⟩) := (hr 9 (by decide)).trans rfl
            exact rel_run (v := .pointer (some ⟨b', 0, none⟩)) (by clear hn hr hK; generalize a.eval = ρ at *; simp [execOp, e9, go_sem]) rfl (Below.refl _ _) hK
          refine StepAll.cons ?_ ?_
          · intro a wx hn hr hb K hK
            have ec := evc a
            have e97 : a.eval (.tmp 97) = .pointer (some ⟨b', 0, none⟩) := hn 20 (by decide)
            exact rel_run (v := .pointer (some ⟨b', 0, none⟩)) (by clear hn hr hK; generalize a.eval = ρ at *; simp [execOp, e97, go_sem]) rfl (Below.refl _ _) hK
          refine StepAll.cons ?_ ?_
          · intro a wx hn hr hb K hK
            have ec := evc a
            have e98 : a.eval (.tmp 98) = .pointer (some ⟨b', 0, none⟩) := hn 21 (by decide)
            exact rel_run (v := .pointer (some ⟨b', 0, none⟩)) (by clear hn hr hK; generalize a.eval = ρ at *; simp [execOp, e98, go_sem]) rfl (Below.refl _ _) hK
          refine StepAll.cons ?_ ?_
          · intro a wx hn hr hb K hK
            have ec := evc a
            have e99 : a.eval (.tmp 99) = .pointer (some ⟨b', 0, none⟩) := hn 22 (by decide)
            have c0 := bcl hb kR
            exact rel_run (v := .slice ra L2.length rc) (by clear hn hr hK; generalize a.eval = ρ at *; simp [execOp, e99, c0, go_sem]) rfl (Below.refl _ _) hK
          refine StepAll.cons ?_ ?_
          · intro a wx hn hr hb K hK
            have ec := evc a
            have e100 : a.eval (.tmp 100) = .slice ra L2.length rc := hn 23 (by decide)
            exact rel_run (v := .int .i64 (L2.length : Nat)) (by clear hn hr hK; generalize a.eval = ρ at *; simp [e100, go_sem]) rfl (Below.refl _ _) hK
          refine StepAll.cons ?_ ?_
          · intro a wx hn hr hb K hK
            have ec := evc a
            have e96 : a.eval (.tmp 96) = .int .i64 (L2.length : Nat) := hn 19 (by decide)
            have e101 : a.eval (.tmp 101) = .int .i64 (L2.length : Nat) := hn 24 (by decide)
            exact rel_run (v := .bool false) (by clear hn hr hK; generalize a.eval = ρ at *; simp [execOp, e96, e101, go_sem]) rfl (Below.refl _ _) hK
          refine StepAll.cons ?_ ?_
          · intro a wx hn hr hb K hK
            have ec := evc a
            have e94 : a.eval (.tmp 94) = .bool false := hn 17 (by decide)
            have e102 : a.eval (.tmp 102) = .bool false := hn 25 (by decide)
            exact rel_run (v := .bool false) (by clear hn hr hK; generalize a.eval = ρ at *; simp [execOp, e94, e102, go_sem]) rfl (Below.refl _ _) hK
          refine StepAll.cons ?_ ?_
          · intro a wx hn hr hb K hK
            have ec := evc a
            have e103 : a.eval (.tmp 103) = .bool false := hn 26 (by decide)
            exact rel_run (v := .bool false) (by clear hn hr hK; generalize a.eval = ρ at *; simp [execOp, e103, go_sem]) rfl (Below.refl _ _) hK
          refine StepAll.cons ?_ ?_
          · intro a wx hn hr hb K hK
            have ec := evc a
            have e12 : a.eval (.tmp 12) = .pointer (some ⟨w3.heap.size, 0, none⟩) := (hr 12 (by decide)).trans rfl
            have c0 := bcl hb kT0
            have c1 := bcl hb kT1
            have c2 := bcl hb kT2
            have c3 := bcl hb kT3
            have c4 := bcl hb kT4
            have c5 := bcl hb kT5
            exact rel_run (v := .agg #[.int .i64 k1, .string s1, .int .u64 n1, .int .i64 a1, .int .i64 b1, .int .i64 c1']) (by clear hn hr hK; generalize a.eval = ρ at *; simp [execOp, e12, c0, c1, c2, c3, c4, c5, go_sem]) rfl (Below.refl _ _) hK
          refine StepAll.cons ?_ ?_
          · intro a wx hn hr hb K hK
            have ec := evc a
            have e105 : a.eval (.tmp 105) = .agg #[.int .i64 k1, .string s1, .int .u64 n1, .int .i64 a1, .int .i64 b1, .int .i64 c1'] := hn 28 (by decide)
            have ef : a.eval (.func 25) = .func (.func 25) #[] #[] := rfl
            exact rel_call (by clear hn hr hK; generalize a.eval = ρ at *; simp [execOp, e105, cf25, ef, go_sem]) ((parts_calls k1 s1 n1 a1 b1 c1' wx).mono (fun e w2 h => by obtain ⟨ad, h1, h2⟩ := h; exact ⟨_, h1, ⟨ad, _, by rw [parts_length], h2.at⟩, h2.below⟩)) hK
          refine StepAll.cons ?_ ?_
          · intro a wx hn hr hb K hK
            have ec := evc a
            have e12 : a.eval (.tmp 12) = .pointer (some ⟨w3.heap.size, 0, none⟩) := (hr 12 (by decide)).trans rfl
            have c0 := bcl hb kT0
            have c1 := bcl hb kT1
            have c2 := bcl hb kT2
            have c3 := bcl hb kT3
            have c4 := bcl hb kT4
            have c5 := bcl hb kT5
            exact rel_run (v := .agg #[.int .i64 k1, .string s1, .int .u64 n1, .int .i64 a1, .int .i64 b1, .int .i64 c1']) (by clear hn hr hK; generalize a.eval = ρ at *; simp [execOp, e12, c0, c1, c2, c3, c4, c5, go_sem]) rfl (Below.refl _ _) hK
          refine StepAll.cons ?_ ?_
          · intro a wx hn hr hb K hK
            have ec := evc a
            have e107 : a.eval (.tmp 107) = .agg #[.int .i64 k1, .string s1, .int .u64 n1, .int .i64 a1, .int .i64 b1, .int .i64 c1'] := hn 30 (by decide)
            have ef : a.eval (.func 20) = .func (.func 20) #[] #[] := rfl
            exact rel_call (by clear hn hr hK; generalize a.eval = ρ at *; simp [execOp, e107, cf20, ef, go_sem]) ((ref_agg k1 s1 n1 a1 b1 c1' wx).mono (fun e w2 h => ⟨_, h.1, rfl, h.2⟩)) hK
          refine StepAll.cons ?_ ?_
          · intro a wx hn hr hb K hK
            have ec := evc a
            have e108 : a.eval (.tmp 108) = .agg #[.int .i64 k1, .string s1, .int .u64 n1, .int .i64 a1, .int .i64 b1, .int .i64 c1'] := hn 31 (by decide)
            have ef : a.eval (.func 26) = .func (.func 26) #[] #[] := rfl
            exact rel_call (by clear hn hr hK; generalize a.eval = ρ at *; simp [execOp, e108, cf26, ef, go_sem]) (rparts_ns k1 s1 n1 a1 b1 c1' wx) hK
          refine StepAll.cons ?_ ?_
          · intro a wx hn hr hb K hK
            have ec := evc a
            obtain ⟨ad106, cp106, e106, i106⟩ := (show NsAt wx (a.eval (.tmp 106)) (T.parts ⟨k1, s1, n1, a1, b1, c1'⟩) from hn 29 (by decide)).ex
            obtain ⟨ad109, cp109, e109, i109⟩ := (show NsAt wx (a.eval (.tmp 109)) (T.parts ⟨k1, s1, n1, a1, b1, c1'⟩) from hn 32 (by decide)).ex
            have ef : a.eval (.func 24) = .func (.func 24) #[] #[] := rfl
            exact rel_call (by clear hn hr hK; generalize a.eval = ρ at *; simp [execOp, e106, e109, cf24, ef, go_sem]) ((same_calls (c1 := cp106) (c2 := cp109) i106 i109 rfl rfl (by rw [parts_length]; have := many_le k1; simp only; omega) (by rw [parts_length]; have := many_le k1; simp only; omega)).mono (fun e w2 h => ⟨.bool true, h.1.trans (by rw [show decide (T.parts ⟨k1, s1, n1, a1, b1, c1'⟩ = T.parts ⟨k1, s1, n1, a1, b1, c1'⟩) = true from decide_eq_true rfl]), rfl, h.2⟩)) hK
          refine StepAll.cons ?_ ?_
          · intro a wx hn hr hb K hK
            have ec := evc a
            have e110 : a.eval (.tmp 110) = .bool true := hn 33 (by decide)
            exact rel_run (v := .bool false) (by clear hn hr hK; generalize a.eval = ρ at *; simp [execOp, e110, go_sem]) rfl (Below.refl _ _) hK
          refine StepAll.cons ?_ ?_
          · intro a wx hn hr hb K hK
            have ec := evc a
            have e104 : a.eval (.tmp 104) = .bool false := hn 27 (by decide)
            have e111 : a.eval (.tmp 111) = .bool false := hn 34 (by decide)
            exact rel_run (v := .bool false) (by clear hn hr hK; generalize a.eval = ρ at *; simp [execOp, e104, e111, go_sem]) rfl (Below.refl _ _) hK
          exact trivial
        intro f w9 hv hb
        have er : f 112 = .bool false := hv 35 (by decide)
        clear hv kR kT0 kT1 kT2 kT3 kT4 kT5 cf20 cf21 cf22 cf23 cf24 cf25 cf26
        simp only [patchG, Nat.reduceAdd, Nat.reduceLeDiff, decide_true, decide_false, Bool.and_true, Bool.and_false, cond_true, cond_false, er]
        have H2 := hid (H.out.still hb)
        clear H hb HS HR er
        go_wp2_with fail
        go_roundw
        case rel => exact ⟨j + 1, by omega, by go_num, L2, hid (Hd.dropEnd (Rs := [Sto b L2 x0, RSto b' L2 x0]) (H2.out.front 1 rfl))⟩
        case measure => simp [intOf]; omega
      · have hex : decide (j < len) = false ∨ (decide (j < len) = true ∧ decide ((j : Int) < 40) = false) := by
          by_cases h : j < len
          · right; exact ⟨by simpa using h, by simp; omega⟩
          · left; simpa using h
        clear hlt
        obtain ⟨⟨gk, gs, gn, ga, gb, gc⟩, hgt⟩ : ∃ t, getT L x2 = t := ⟨_, rfl⟩
        obtain ⟨gB, hgb⟩ : ∃ t, getB L x2 = t := ⟨_, rfl⟩
        have HGT := hid hgt
        have HGB := hid hgb
        clear hgt hgb
        rcases hex with hd1 | ⟨hd1, hd2⟩
        · skip
          go_wp2_with fail
          refine (get_c x2 H.out).mono ?_
          rw [HGT.out, HGB.out]
          simp only [T.val]
          rintro e w3 ⟨rfl, hd⟩
          clear H
          have H := hid hd
          clear hd
          go_wp2_with fail
          have H9 := hid ((H.out.box (.cells #[.int .i64 gk, .string gs, .int .u64 gn, .int .i64 ga, .int .i64 gb, .int .i64 gc] 32 (0, 0))).front 2 rfl)
          clear H
          have H := H9
          clear H9
          refine (rget_c x2 H.out).mono ?_
          rw [HGT.out, HGB.out]
          simp only [T.val]
          rintro e w4 ⟨rfl, hd⟩
          clear H
          have H := hid hd
          clear hd
          go_wp2_with fail
          have H9 := hid (H.out.box (.cells #[.int .i64 gk, .string gs, .int .u64 gn, .int .i64 ga, .int .i64 gb, .int .i64 gc] 37 (0, 0)))
          clear H
          have H := H9
          clear H9
          obtain ⟨w5, hw5⟩ : ∃ w5, w4.alloc (.cells #[.int .i64 gk, .string gs, .int .u64 gn, .int .i64 ga, .int .i64 gb, .int .i64 gc] 37 (0, 0)) = w5 := ⟨_, rfl⟩
          rw [hw5] at H ⊢
          clear hw5
          obtain ⟨lb, db, mb, lc, dc, hs⟩ := (H.out.front 3 rfl).sto
          have HS := hid hs
          clear hs
          obtain ⟨ra, rc, hr⟩ := (H.out.front 1 rfl).rsto
          have kR := hr.c0
          have HR := hid hr
          clear hr
          have kX0 := (cell_of_heap (Hd.nthk 2 H.out rfl) 0).trans (show _ = some (.int .i64 gk) from rfl)
          have kX1 := (cell_of_heap (Hd.nthk 2 H.out rfl) 1).trans (show _ = some (.string gs) from rfl)
          have kX2 := (cell_of_heap (Hd.nthk 2 H.out rfl) 2).trans (show _ = some (.int .u64 gn) from rfl)
          have kX3 := (cell_of_heap (Hd.nthk 2 H.out rfl) 3).trans (show _ = some (.int .i64 ga) from rfl)
          have kX4 := (cell_of_heap (Hd.nthk 2 H.out rfl) 4).trans (show _ = some (.int .i64 gb) from rfl)
          have kX5 := (cell_of_heap (Hd.nthk 2 H.out rfl) 5).trans (show _ = some (.int .i64 gc) from rfl)
          have kY0 := (cell_of_heap (Hd.nthk 0 H.out rfl) 0).trans (show _ = some (.int .i64 gk) from rfl)
          have kY1 := (cell_of_heap (Hd.nthk 0 H.out rfl) 1).trans (show _ = some (.string gs) from rfl)
          have kY2 := (cell_of_heap (Hd.nthk 0 H.out rfl) 2).trans (show _ = some (.int .u64 gn) from rfl)
          have kY3 := (cell_of_heap (Hd.nthk 0 H.out rfl) 3).trans (show _ = some (.int .i64 ga) from rfl)
          have kY4 := (cell_of_heap (Hd.nthk 0 H.out rfl) 4).trans (show _ = some (.int .i64 gb) from rfl)
          have kY5 := (cell_of_heap (Hd.nthk 0 H.out rfl) 5).trans (show _ = some (.int .i64 gc) from rfl)
          have HH := hid (((H.out.front 1 rfl).front 3 rfl))
          have cf20 : ∀ args w, (callFunc 20 args).run Try.prog w = .ok (.enter 20 args) w := fun args w => by kernel_rfl
          have cf21 : ∀ args w, (callFunc 21 args).run Try.prog w = .ok (.enter 21 args) w := fun args w => by kernel_rfl
          have cf22 : ∀ args w, (callFunc 22 args).run Try.prog w = .ok (.enter 22 args) w := fun args w => by kernel_rfl
          have cf27 : ∀ args w, (callFunc 27 args).run Try.prog w = .ok (.enter 27 args) w := fun args w => by kernel_rfl
          have cf30 : ∀ args w, (callFunc 30 args).run Try.prog w = .ok (.enter 30 args) w := fun args w => by kernel_rfl
          refine wp_region_rel ([] :: [0] :: [] :: [1, 2] :: [3] :: [4] :: [4] :: [4, 5, 6] :: [4, 7] :: [8] :: [9] :: [9] :: [9, 10, 11] :: [9] :: [9] :: [9, 13, 14] :: [9, 12, 15] :: [9, 16] :: [17] :: [18] :: [18] :: [18, 19, 20] :: [18, 21] :: [18, 22] :: [23] :: [24] :: [24, 25] :: [26] :: []) (136 :: 137 :: 138 :: 139 :: 140 :: 141 :: 142 :: 143 :: 144 :: 145 :: 146 :: 147 :: 148 :: 149 :: 150 :: 151 :: 152 :: 153 :: 154 :: 155 :: 156 :: 157 :: 158 :: 159 :: 160 :: 161 :: 162 :: 6 :: []) (fun i v w => ((
              .is (.agg #[.int .i64 gk, .string gs, .int .u64 gn, .int .i64 ga, .int .i64 gb, .int .i64 gc]) ::
              .is (.agg #[.int .i64 gk, .string gs, .int .u64 gn, .int .i64 ga, .int .i64 gb, .int .i64 gc]) ::
              .is (.agg #[.int .i64 gk, .string gs, .int .u64 gn, .int .i64 ga, .int .i64 gb, .int .i64 gc]) ::
              .is (.bool true) ::
              .is (.bool true) ::
              .is (.bool gB) ::
              .is (.bool gB) ::
              .is (.bool true) ::
              .is (.bool true) ::
              .is (.bool true) ::
              .is (.pointer (some ⟨b, 0, none⟩)) ::
              .is (.int .i64 x2) ::
              .is (.int .i64 (depth L x2)) ::
              .is (.pointer (some ⟨b', 0, none⟩)) ::
              .is (.int .i64 x2) ::
              .is (.int .i64 (depth L x2)) ::
              .is (.bool true) ::
              .is (.bool true) ::
              .is (.bool true) ::
              .is (.pointer (some ⟨b, 0, none⟩)) ::
              .is (.pointer (some ⟨b', 0, none⟩)) ::
              .is (.int .i64 1) ::
              .is (.bool true) ::
              .is (.bool true) ::
              .is (.bool true) ::
              .is (.bool true) ::
              .is (.bool true) ::
              .is (.bool true) :: ([] : List Fact)).getD i .any).of v w) (by kernel_rfl) (by kernel_rfl) (fun d hd => Nat.lt_of_lt_of_eq (rel_lt (n := 163) (by decide) d hd) rfl) ?_ ?_ ?_ (fun t => t == 6 || decide (136 ≤ t)) (by decide) ?_
          · repeat (refine StepAll.cons (by first | exact trivial | exact fun v w h => h) ?_)
            exact trivial
          · intro i v w x h hb
            exact Fact.later h hb
          ·
            refine StepAll.cons ?_ ?_
            · intro a wx hn hr hb K hK
              have ec := evc a
              have e17 : a.eval (.tmp 17) = .pointer (some ⟨w3.heap.size, 0, none⟩) := (hr 17 (by decide)).trans rfl
              have c0 := bcl hb kX0
              have c1 := bcl hb kX1
              have c2 := bcl hb kX2
              have c3 := bcl hb kX3
              have c4 := bcl hb kX4
              have c5 := bcl hb kX5
              exact rel_run (v := .agg #[.int .i64 gk, .string gs, .int .u64 gn, .int .i64 ga, .int .i64 gb, .int .i64 gc]) (by clear hn hr hK; generalize a.eval = ρ at *; simp [execOp, e17, c0, c1, c2, c3, c4, c5, go_sem]) rfl (Below.refl _ _) hK
            refine StepAll.cons ?_ ?_
            · intro a wx hn hr hb K hK
              have ec := evc a
              have e136 : a.eval (.tmp 136) = .agg #[.int .i64 gk, .string gs, .int .u64 gn, .int .i64 ga, .int .i64 gb, .int .i64 gc] := hn 0 (by decide)
              have ef : a.eval (.func 20) = .func (.func 20) #[] #[] := rfl
              exact rel_call (by clear hn hr hK; generalize a.eval = ρ at *; simp [execOp, e136, cf20, ef, go_sem]) ((ref_agg gk gs gn ga gb gc wx).mono (fun e w2 h => ⟨_, h.1, rfl, h.2⟩)) hK
            refine StepAll.cons ?_ ?_
            · intro a wx hn hr hb K hK
              have ec := evc a
              have e19 : a.eval (.tmp 19) = .pointer (some ⟨w4.heap.size, 0, none⟩) := (hr 19 (by decide)).trans rfl
              have c0 := bcl hb kY0
              have c1 := bcl hb kY1
              have c2 := bcl hb kY2
              have c3 := bcl hb kY3
              have c4 := bcl hb kY4
              have c5 := bcl hb kY5
              exact rel_run (v := .agg #[.int .i64 gk, .string gs, .int .u64 gn, .int .i64 ga, .int .i64 gb, .int .i64 gc]) (by clear hn hr hK; generalize a.eval = ρ at *; simp [execOp, e19, c0, c1, c2, c3, c4, c5, go_sem]) rfl (Below.refl _ _) hK
            refine StepAll.cons ?_ ?_
            · intro a wx hn hr hb K hK
              have ec := evc a
              have e137 : a.eval (.tmp 137) = .agg #[.int .i64 gk, .string gs, .int .u64 gn, .int .i64 ga, .int .i64 gb, .int .i64 gc] := hn 1 (by decide)
              have e138 : a.eval (.tmp 138) = .agg #[.int .i64 gk, .string gs, .int .u64 gn, .int .i64 ga, .int .i64 gb, .int .i64 gc] := hn 2 (by decide)
              exact rel_run (v := .bool true) (by clear hn hr hK; generalize a.eval = ρ at *; simp [execOp, e137, e138, go_sem]) rfl (Below.refl _ _) hK
            refine StepAll.cons ?_ ?_
            · intro a wx hn hr hb K hK
              have ec := evc a
              have e139 : a.eval (.tmp 139) = .bool true := hn 3 (by decide)
              exact rel_run (v := .bool true) (by clear hn hr hK; generalize a.eval = ρ at *; simp [execOp, e139, go_sem]) rfl (Below.refl _ _) hK
            refine StepAll.cons ?_ ?_
            · intro a wx hn hr hb K hK
              have ec := evc a
              have e18 : a.eval (.tmp 18) = .bool gB := (hr 18 (by decide)).trans rfl
              exact rel_run (v := .bool gB) (by clear hn hr hK; generalize a.eval = ρ at *; simp [execOp, e18, go_sem]) rfl (Below.refl _ _) hK
            refine StepAll.cons ?_ ?_
            · intro a wx hn hr hb K hK
              have ec := evc a
              have e20 : a.eval (.tmp 20) = .bool gB := (hr 20 (by decide)).trans rfl
              exact rel_run (v := .bool gB) (by clear hn hr hK; generalize a.eval = ρ at *; simp [execOp, e20, go_sem]) rfl (Below.refl _ _) hK
            refine StepAll.cons ?_ ?_
            · intro a wx hn hr hb K hK
              have ec := evc a
              have e141 : a.eval (.tmp 141) = .bool gB := hn 5 (by decide)
              have e142 : a.eval (.tmp 142) = .bool gB := hn 6 (by decide)
              exact rel_run (v := .bool true) (by clear hn hr hK; generalize a.eval = ρ at *; simp [execOp, e141, e142, go_sem]) rfl (Below.refl _ _) hK
            refine StepAll.cons ?_ ?_
            · intro a wx hn hr hb K hK
              have ec := evc a
              have e140 : a.eval (.tmp 140) = .bool true := hn 4 (by decide)
              have e143 : a.eval (.tmp 143) = .bool true := hn 7 (by decide)
              exact rel_run (v := .bool true) (by clear hn hr hK; generalize a.eval = ρ at *; simp [execOp, e140, e143, go_sem]) rfl (Below.refl _ _) hK
            refine StepAll.cons ?_ ?_
            · intro a wx hn hr hb K hK
              have ec := evc a
              have e144 : a.eval (.tmp 144) = .bool true := hn 8 (by decide)
              exact rel_run (v := .bool true) (by clear hn hr hK; generalize a.eval = ρ at *; simp [execOp, e144, go_sem]) rfl (Below.refl _ _) hK
            refine StepAll.cons ?_ ?_
            · intro a wx hn hr hb K hK
              have ec := evc a
              have e7 : a.eval (.tmp 7) = .pointer (some ⟨b, 0, none⟩) := (hr 7 (by decide)).trans rfl
              exact rel_run (v := .pointer (some ⟨b, 0, none⟩)) (by clear hn hr hK; generalize a.eval = ρ at *; simp [execOp, e7, go_sem]) rfl (Below.refl _ _) hK
            refine StepAll.cons ?_ ?_
            · intro a wx hn hr hb K hK
              have ec := evc a
              have e2 : a.eval (.tmp 2) = .int .i64 x2 := (hr 2 (by decide)).trans rfl
              exact rel_run (v := .int .i64 x2) (by clear hn hr hK; generalize a.eval = ρ at *; simp [execOp, e2, go_sem]) rfl (Below.refl _ _) hK
            refine StepAll.cons ?_ ?_
            · intro a wx hn hr hb K hK
              have ec := evc a
              have e146 : a.eval (.tmp 146) = .pointer (some ⟨b, 0, none⟩) := hn 10 (by decide)
              have e147 : a.eval (.tmp 147) = .int .i64 x2 := hn 11 (by decide)
              have ef : a.eval (.func 21) = .func (.func 21) #[] #[] := rfl
              exact rel_call (by clear hn hr hK; generalize a.eval = ρ at *; simp [execOp, e146, e147, cf21, ef, go_sem]) ((depth_calls x2 (HS.out.later hb)).mono (fun e w2 h => ⟨_, h.1, rfl, h.2 ▸ Below.refl _ _⟩)) hK
            refine StepAll.cons ?_ ?_
            · intro a wx hn hr hb K hK
              have ec := evc a
              have e9 : a.eval (.tmp 9) = .pointer (some ⟨b', 0, none⟩) := (hr 9 (by decide)).trans rfl
              exact rel_run (v := .pointer (some ⟨b', 0, none⟩)) (by clear hn hr hK; generalize a.eval = ρ at *; simp [execOp, e9, go_sem]) rfl (Below.refl _ _) hK
            refine StepAll.cons ?_ ?_
            · intro a wx hn hr hb K hK
              have ec := evc a
              have e2 : a.eval (.tmp 2) = .int .i64 x2 := (hr 2 (by decide)).trans rfl
              exact rel_run (v := .int .i64 x2) (by clear hn hr hK; generalize a.eval = ρ at *; simp [execOp, e2, go_sem]) rfl (Below.refl _ _) hK
            refine StepAll.cons ?_ ?_
            · intro a wx hn hr hb K hK
              have ec := evc a
              have e149 : a.eval (.tmp 149) = .pointer (some ⟨b', 0, none⟩) := hn 13 (by decide)
              have e150 : a.eval (.tmp 150) = .int .i64 x2 := hn 14 (by decide)
              have ef : a.eval (.func 22) = .func (.func 22) #[] #[] := rfl
              exact rel_call (by clear hn hr hK; generalize a.eval = ρ at *; simp [execOp, e149, e150, cf22, ef, go_sem]) ((rdepth_calls x2 (HR.out.later hb)).mono (fun e w2 h => ⟨_, h.1, rfl, h.2⟩)) hK
            refine StepAll.cons ?_ ?_
            · intro a wx hn hr hb K hK
              have ec := evc a
              have e148 : a.eval (.tmp 148) = .int .i64 (depth L x2) := hn 12 (by decide)
              have e151 : a.eval (.tmp 151) = .int .i64 (depth L x2) := hn 15 (by decide)
              exact rel_run (v := .bool true) (by clear hn hr hK; generalize a.eval = ρ at *; simp [execOp, e148, e151, go_sem]) rfl (Below.refl _ _) hK
            refine StepAll.cons ?_ ?_
            · intro a wx hn hr hb K hK
              have ec := evc a
              have e145 : a.eval (.tmp 145) = .bool true := hn 9 (by decide)
              have e152 : a.eval (.tmp 152) = .bool true := hn 16 (by decide)
              exact rel_run (v := .bool true) (by clear hn hr hK; generalize a.eval = ρ at *; simp [execOp, e145, e152, go_sem]) rfl (Below.refl _ _) hK
            refine StepAll.cons ?_ ?_
            · intro a wx hn hr hb K hK
              have ec := evc a
              have e153 : a.eval (.tmp 153) = .bool true := hn 17 (by decide)
              exact rel_run (v := .bool true) (by clear hn hr hK; generalize a.eval = ρ at *; simp [execOp, e153, go_sem]) rfl (Below.refl _ _) hK
            refine StepAll.cons ?_ ?_
            · intro a wx hn hr hb K hK
              have ec := evc a
              have e7 : a.eval (.tmp 7) = .pointer (some ⟨b, 0, none⟩) := (hr 7 (by decide)).trans rfl
              exact rel_run (v := .pointer (some ⟨b, 0, none⟩)) (by clear hn hr hK; generalize a.eval = ρ at *; simp [execOp, e7, go_sem]) rfl (Below.refl _ _) hK
            refine StepAll.cons ?_ ?_
            · intro a wx hn hr hb K hK
              have ec := evc a
              have e9 : a.eval (.tmp 9) = .pointer (some ⟨b', 0, none⟩) := (hr 9 (by decide)).trans rfl
              exact rel_run (v := .pointer (some ⟨b', 0, none⟩)) (by clear hn hr hK; generalize a.eval = ρ at *; simp [execOp, e9, go_sem]) rfl (Below.refl _ _) hK
            refine StepAll.cons ?_ ?_
            · intro a wx hn hr hb K hK
              have ec := evc a
              have e155 : a.eval (.tmp 155) = .pointer (some ⟨b, 0, none⟩) := hn 19 (by decide)
              have e156 : a.eval (.tmp 156) = .pointer (some ⟨b', 0, none⟩) := hn 20 (by decide)
              have ef : a.eval (.func 30) = .func (.func 30) #[] #[] := rfl
              exact rel_call (by clear hn hr hK; generalize a.eval = ρ at *; simp [execOp, e155, e156, cf30, ef, go_sem]) ((same2_calls (HH.out.still hb)).mono (fun e w2 h => ⟨_, h.1, rfl, h.2⟩)) hK
            refine StepAll.cons ?_ ?_
            · intro a wx hn hr hb K hK
              have ec := evc a
              have e157 : a.eval (.tmp 157) = .int .i64 1 := hn 21 (by decide)
              exact rel_run (v := .bool true) (by clear hn hr hK; generalize a.eval = ρ at *; simp [execOp, ec, e157, go_sem]) rfl (Below.refl _ _) hK
            refine StepAll.cons ?_ ?_
            · intro a wx hn hr hb K hK
              have ec := evc a
              have e154 : a.eval (.tmp 154) = .bool true := hn 18 (by decide)
              have e158 : a.eval (.tmp 158) = .bool true := hn 22 (by decide)
              exact rel_run (v := .bool true) (by clear hn hr hK; generalize a.eval = ρ at *; simp [execOp, e154, e158, go_sem]) rfl (Below.refl _ _) hK
            refine StepAll.cons ?_ ?_
            · intro a wx hn hr hb K hK
              have ec := evc a
              have e159 : a.eval (.tmp 159) = .bool true := hn 23 (by decide)
              exact rel_run (v := .bool true) (by clear hn hr hK; generalize a.eval = ρ at *; simp [execOp, e159, go_sem]) rfl (Below.refl _ _) hK
            refine StepAll.cons ?_ ?_
            · intro a wx hn hr hb K hK
              have ec := evc a
              have ef : a.eval (.func 27) = .func (.func 27) #[] #[] := rfl
              exact rel_call (by clear hn hr hK; generalize a.eval = ρ at *; simp [execOp, cf27, ef, go_sem]) ((fixed2_calls (Hd.refl wx)).mono (fun e w2 h => ⟨_, h.1, rfl, h.2.below⟩)) hK
            refine StepAll.cons ?_ ?_
            · intro a wx hn hr hb K hK
              have ec := evc a
              have e160 : a.eval (.tmp 160) = .bool true := hn 24 (by decide)
              have e161 : a.eval (.tmp 161) = .bool true := hn 25 (by decide)
              exact rel_run (v := .bool true) (by clear hn hr hK; generalize a.eval = ρ at *; simp [execOp, e160, e161, go_sem]) rfl (Below.refl _ _) hK
            refine StepAll.cons ?_ ?_
            · intro a wx hn hr hb K hK
              have ec := evc a
              have e162 : a.eval (.tmp 162) = .bool true := hn 26 (by decide)
              exact rel_run (v := .bool true) (by clear hn hr hK; generalize a.eval = ρ at *; simp [execOp, e162, go_sem]) rfl (Below.refl _ _) hK
            exact trivial
          intro f w9 hv hb
          have er : f 6 = .bool true := hv 27 (by decide)
          clear hv kR cf20 cf21 cf22 cf27 cf30
          simp only [patchG, Nat.reduceAdd, Nat.reduceLeDiff, decide_true, decide_false, er]
          have H2 := hid (H.out.still hb)
          clear H hb HS HR HH
          go_wp2_with fail
          go_ret
          exact ⟨rfl, H2.out.below⟩
        · skip
          go_wp2_with fail
          refine (get_c x2 H.out).mono ?_
          rw [HGT.out, HGB.out]
          simp only [T.val]
          rintro e w3 ⟨rfl, hd⟩
          clear H
          have H := hid hd
          clear hd
          go_wp2_with fail
          have H9 := hid ((H.out.box (.cells #[.int .i64 gk, .string gs, .int .u64 gn, .int .i64 ga, .int .i64 gb, .int .i64 gc] 32 (0, 0))).front 2 rfl)
          clear H
          have H := H9
          clear H9
          refine (rget_c x2 H.out).mono ?_
          rw [HGT.out, HGB.out]
          simp only [T.val]
          rintro e w4 ⟨rfl, hd⟩
          clear H
          have H := hid hd
          clear hd
          go_wp2_with fail
          have H9 := hid (H.out.box (.cells #[.int .i64 gk, .string gs, .int .u64 gn, .int .i64 ga, .int .i64 gb, .int .i64 gc] 37 (0, 0)))
          clear H
          have H := H9
          clear H9
          obtain ⟨w5, hw5⟩ : ∃ w5, w4.alloc (.cells #[.int .i64 gk, .string gs, .int .u64 gn, .int .i64 ga, .int .i64 gb, .int .i64 gc] 37 (0, 0)) = w5 := ⟨_, rfl⟩
          rw [hw5] at H ⊢
          clear hw5
          obtain ⟨lb, db, mb, lc, dc, hs⟩ := (H.out.front 3 rfl).sto
          have HS := hid hs
          clear hs
          obtain ⟨ra, rc, hr⟩ := (H.out.front 1 rfl).rsto
          have kR := hr.c0
          have HR := hid hr
          clear hr
          have kX0 := (cell_of_heap (Hd.nthk 2 H.out rfl) 0).trans (show _ = some (.int .i64 gk) from rfl)
          have kX1 := (cell_of_heap (Hd.nthk 2 H.out rfl) 1).trans (show _ = some (.string gs) from rfl)
          have kX2 := (cell_of_heap (Hd.nthk 2 H.out rfl) 2).trans (show _ = some (.int .u64 gn) from rfl)
          have kX3 := (cell_of_heap (Hd.nthk 2 H.out rfl) 3).trans (show _ = some (.int .i64 ga) from rfl)
          have kX4 := (cell_of_heap (Hd.nthk 2 H.out rfl) 4).trans (show _ = some (.int .i64 gb) from rfl)
          have kX5 := (cell_of_heap (Hd.nthk 2 H.out rfl) 5).trans (show _ = some (.int .i64 gc) from rfl)
          have kY0 := (cell_of_heap (Hd.nthk 0 H.out rfl) 0).trans (show _ = some (.int .i64 gk) from rfl)
          have kY1 := (cell_of_heap (Hd.nthk 0 H.out rfl) 1).trans (show _ = some (.string gs) from rfl)
          have kY2 := (cell_of_heap (Hd.nthk 0 H.out rfl) 2).trans (show _ = some (.int .u64 gn) from rfl)
          have kY3 := (cell_of_heap (Hd.nthk 0 H.out rfl) 3).trans (show _ = some (.int .i64 ga) from rfl)
          have kY4 := (cell_of_heap (Hd.nthk 0 H.out rfl) 4).trans (show _ = some (.int .i64 gb) from rfl)
          have kY5 := (cell_of_heap (Hd.nthk 0 H.out rfl) 5).trans (show _ = some (.int .i64 gc) from rfl)
          have HH := hid (((H.out.front 1 rfl).front 3 rfl))
          have cf20 : ∀ args w, (callFunc 20 args).run Try.prog w = .ok (.enter 20 args) w := fun args w => by kernel_rfl
          have cf21 : ∀ args w, (callFunc 21 args).run Try.prog w = .ok (.enter 21 args) w := fun args w => by kernel_rfl
          have cf22 : ∀ args w, (callFunc 22 args).run Try.prog w = .ok (.enter 22 args) w := fun args w => by kernel_rfl
          have cf27 : ∀ args w, (callFunc 27 args).run Try.prog w = .ok (.enter 27 args) w := fun args w => by kernel_rfl
          have cf30 : ∀ args w, (callFunc 30 args).run Try.prog w = .ok (.enter 30 args) w := fun args w => by kernel_rfl
          refine wp_region_rel ([] :: [0] :: [] :: [1, 2] :: [3] :: [4] :: [4] :: [4, 5, 6] :: [4, 7] :: [8] :: [9] :: [9] :: [9, 10, 11] :: [9] :: [9] :: [9, 13, 14] :: [9, 12, 15] :: [9, 16] :: [17] :: [18] :: [18] :: [18, 19, 20] :: [18, 21] :: [18, 22] :: [23] :: [24] :: [24, 25] :: [26] :: []) (136 :: 137 :: 138 :: 139 :: 140 :: 141 :: 142 :: 143 :: 144 :: 145 :: 146 :: 147 :: 148 :: 149 :: 150 :: 151 :: 152 :: 153 :: 154 :: 155 :: 156 :: 157 :: 158 :: 159 :: 160 :: 161 :: 162 :: 6 :: []) (fun i v w => ((
              .is (.agg #[.int .i64 gk, .string gs, .int .u64 gn, .int .i64 ga, .int .i64 gb, .int .i64 gc]) ::
              .is (.agg #[.int .i64 gk, .string gs, .int .u64 gn, .int .i64 ga, .int .i64 gb, .int .i64 gc]) ::
              .is (.agg #[.int .i64 gk, .string gs, .int .u64 gn, .int .i64 ga, .int .i64 gb, .int .i64 gc]) ::
              .is (.bool true) ::
              .is (.bool true) ::
              .is (.bool gB) ::
              .is (.bool gB) ::
              .is (.bool true) ::
              .is (.bool true) ::
              .is (.bool true) ::
              .is (.pointer (some ⟨b, 0, none⟩)) ::
              .is (.int .i64 x2) ::
              .is (.int .i64 (depth L x2)) ::
              .is (.pointer (some ⟨b', 0, none⟩)) ::
              .is (.int .i64 x2) ::
              .is (.int .i64 (depth L x2)) ::
              .is (.bool true) ::
              .is (.bool true) ::
              .is (.bool true) ::
              .is (.pointer (some ⟨b, 0, none⟩)) ::
              .is (.pointer (some ⟨b', 0, none⟩)) ::
              .is (.int .i64 1) ::
              .is (.bool true) ::
              .is (.bool true) ::
              .is (.bool true) ::
              .is (.bool true) ::
              .is (.bool true) ::
              .is (.bool true) :: ([] : List Fact)).getD i .any).of v w) (by kernel_rfl) (by kernel_rfl) (fun d hd => Nat.lt_of_lt_of_eq (rel_lt (n := 163) (by decide) d hd) rfl) ?_ ?_ ?_ (fun t => t == 6 || decide (136 ≤ t)) (by decide) ?_
          · repeat (refine StepAll.cons (by first | exact trivial | exact fun v w h => h) ?_)
            exact trivial
          · intro i v w x h hb
            exact Fact.later h hb
          ·
            refine StepAll.cons ?_ ?_
            · intro a wx hn hr hb K hK
              have ec := evc a
              have e17 : a.eval (.tmp 17) = .pointer (some ⟨w3.heap.size, 0, none⟩) := (hr 17 (by decide)).trans rfl
              have c0 := bcl hb kX0
              have c1 := bcl hb kX1
              have c2 := bcl hb kX2
              have c3 := bcl hb kX3
              have c4 := bcl hb kX4
              have c5 := bcl hb kX5
              exact rel_run (v := .agg #[.int .i64 gk, .string gs, .int .u64 gn, .int .i64 ga, .int .i64 gb, .int .i64 gc]) (by clear hn hr hK; generalize a.eval = ρ at *; simp [execOp, e17, c0, c1, c2, c3, c4, c5, go_sem]) rfl (Below.refl _ _) hK
            refine StepAll.cons ?_ ?_
            · intro a wx hn hr hb K hK
              have ec := evc a
              have e136 : a.eval (.tmp 136) = .agg #[.int .i64 gk, .string gs, .int .u64 gn, .int .i64 ga, .int .i64 gb, .int .i64 gc] := hn 0 (by decide)
              have ef : a.eval (.func 20) = .func (.func 20) #[] #[] := rfl
              exact rel_call (by clear hn hr hK; generalize a.eval = ρ at *; simp [execOp, e136, cf20, ef, go_sem]) ((ref_agg gk gs gn ga gb gc wx).mono (fun e w2 h => ⟨_, h.1, rfl, h.2⟩)) hK
            refine StepAll.cons ?_ ?_
            · intro a wx hn hr hb K hK
              have ec := evc a
              have e19 : a.eval (.tmp 19) = .pointer (some ⟨w4.heap.size, 0, none⟩) := (hr 19 (by decide)).trans rfl
              have c0 := bcl hb kY0
              have c1 := bcl hb kY1
              have c2 := bcl hb kY2
              have c3 := bcl hb kY3
              have c4 := bcl hb kY4
              have c5 := bcl hb kY5
              exact rel_run (v := .agg #[.int .i64 gk, .string gs, .int .u64 gn, .int .i64 ga, .int .i64 gb, .int .i64 gc]) (by clear hn hr hK; generalize a.eval = ρ at *; simp [execOp, e19, c0, c1, c2, c3, c4, c5, go_sem]) rfl (Below.refl _ _) hK
            refine StepAll.cons ?_ ?_
            · intro a wx hn hr hb K hK
              have ec := evc a
              have e137 : a.eval (.tmp 137) = .agg #[.int .i64 gk, .string gs, .int .u64 gn, .int .i64 ga, .int .i64 gb, .int .i64 gc] := hn 1 (by decide)
              have e138 : a.eval (.tmp 138) = .agg #[.int .i64 gk, .string gs, .int .u64 gn, .int .i64 ga, .int .i64 gb, .int .i64 gc] := hn 2 (by decide)
              exact rel_run (v := .bool true) (by clear hn hr hK; generalize a.eval = ρ at *; simp [execOp, e137, e138, go_sem]) rfl (Below.refl _ _) hK
            refine StepAll.cons ?_ ?_
            · intro a wx hn hr hb K hK
              have ec := evc a
              have e139 : a.eval (.tmp 139) = .bool true := hn 3 (by decide)
              exact rel_run (v := .bool true) (by clear hn hr hK; generalize a.eval = ρ at *; simp [execOp, e139, go_sem]) rfl (Below.refl _ _) hK
            refine StepAll.cons ?_ ?_
            · intro a wx hn hr hb K hK
              have ec := evc a
              have e18 : a.eval (.tmp 18) = .bool gB := (hr 18 (by decide)).trans rfl
              exact rel_run (v := .bool gB) (by clear hn hr hK; generalize a.eval = ρ at *; simp [execOp, e18, go_sem]) rfl (Below.refl _ _) hK
            refine StepAll.cons ?_ ?_
            · intro a wx hn hr hb K hK
              have ec := evc a
              have e20 : a.eval (.tmp 20) = .bool gB := (hr 20 (by decide)).trans rfl
              exact rel_run (v := .bool gB) (by clear hn hr hK; generalize a.eval = ρ at *; simp [execOp, e20, go_sem]) rfl (Below.refl _ _) hK
            refine StepAll.cons ?_ ?_
            · intro a wx hn hr hb K hK
              have ec := evc a
              have e141 : a.eval (.tmp 141) = .bool gB := hn 5 (by decide)
              have e142 : a.eval (.tmp 142) = .bool gB := hn 6 (by decide)
              exact rel_run (v := .bool true) (by clear hn hr hK; generalize a.eval = ρ at *; simp [execOp, e141, e142, go_sem]) rfl (Below.refl _ _) hK
            refine StepAll.cons ?_ ?_
            · intro a wx hn hr hb K hK
              have ec := evc a
              have e140 : a.eval (.tmp 140) = .bool true := hn 4 (by decide)
              have e143 : a.eval (.tmp 143) = .bool true := hn 7 (by decide)
              exact rel_run (v := .bool true) (by clear hn hr hK; generalize a.eval = ρ at *; simp [execOp, e140, e143, go_sem]) rfl (Below.refl _ _) hK
            refine StepAll.cons ?_ ?_
            · intro a wx hn hr hb K hK
              have ec := evc a
              have e144 : a.eval (.tmp 144) = .bool true := hn 8 (by decide)
              exact rel_run (v := .bool true) (by clear hn hr hK; generalize a.eval = ρ at *; simp [execOp, e144, go_sem]) rfl (Below.refl _ _) hK
            refine StepAll.cons ?_ ?_
            · intro a wx hn hr hb K hK
              have ec := evc a
              have e7 : a.eval (.tmp 7) = .pointer (some ⟨b, 0, none⟩) := (hr 7 (by decide)).trans rfl
              exact rel_run (v := .pointer (some ⟨b, 0, none⟩)) (by clear hn hr hK; generalize a.eval = ρ at *; simp [execOp, e7, go_sem]) rfl (Below.refl _ _) hK
            refine StepAll.cons ?_ ?_
            · intro a wx hn hr hb K hK
              have ec := evc a
              have e2 : a.eval (.tmp 2) = .int .i64 x2 := (hr 2 (by decide)).trans rfl
              exact rel_run (v := .int .i64 x2) (by clear hn hr hK; generalize a.eval = ρ at *; simp [execOp, e2, go_sem]) rfl (Below.refl _ _) hK
            refine StepAll.cons ?_ ?_
            · intro a wx hn hr hb K hK
              have ec := evc a
              have e146 : a.eval (.tmp 146) = .pointer (some ⟨b, 0, none⟩) := hn 10 (by decide)
              have e147 : a.eval (.tmp 147) = .int .i64 x2 := hn 11 (by decide)
              have ef : a.eval (.func 21) = .func (.func 21) #[] #[] := rfl
              exact rel_call (by clear hn hr hK; generalize a.eval = ρ at *; simp [execOp, e146, e147, cf21, ef, go_sem]) ((depth_calls x2 (HS.out.later hb)).mono (fun e w2 h => ⟨_, h.1, rfl, h.2 ▸ Below.refl _ _⟩)) hK
            refine StepAll.cons ?_ ?_
            · intro a wx hn hr hb K hK
              have ec := evc a
              have e9 : a.eval (.tmp 9) = .pointer (some ⟨b', 0, none⟩) := (hr 9 (by decide)).trans rfl
              exact rel_run (v := .pointer (some ⟨b', 0, none⟩)) (by clear hn hr hK; generalize a.eval = ρ at *; simp [execOp, e9, go_sem]) rfl (Below.refl _ _) hK
            refine StepAll.cons ?_ ?_
            · intro a wx hn hr hb K hK
              have ec := evc a
              have e2 : a.eval (.tmp 2) = .int .i64 x2 := (hr 2 (by decide)).trans rfl
              exact rel_run (v := .int .i64 x2) (by clear hn hr hK; generalize a.eval = ρ at *; simp [execOp, e2, go_sem]) rfl (Below.refl _ _) hK
            refine StepAll.cons ?_ ?_
            · intro a wx hn hr hb K hK
              have ec := evc a
              have e149 : a.eval (.tmp 149) = .pointer (some ⟨b', 0, none⟩) := hn 13 (by decide)
              have e150 : a.eval (.tmp 150) = .int .i64 x2 := hn 14 (by decide)
              have ef : a.eval (.func 22) = .func (.func 22) #[] #[] := rfl
              exact rel_call (by clear hn hr hK; generalize a.eval = ρ at *; simp [execOp, e149, e150, cf22, ef, go_sem]) ((rdepth_calls x2 (HR.out.later hb)).mono (fun e w2 h => ⟨_, h.1, rfl, h.2⟩)) hK
            refine StepAll.cons ?_ ?_
            · intro a wx hn hr hb K hK
              have ec := evc a
              have e148 : a.eval (.tmp 148) = .int .i64 (depth L x2) := hn 12 (by decide)
              have e151 : a.eval (.tmp 151) = .int .i64 (depth L x2) := hn 15 (by decide)
              exact rel_run (v := .bool true) (by clear hn hr hK; generalize a.eval = ρ at *; simp [execOp, e148, e151, go_sem]) rfl (Below.refl _ _) hK
            refine StepAll.cons ?_ ?_
            · intro a wx hn hr hb K hK
              have ec := evc a
              have e145 : a.eval (.tmp 145) = .bool true := hn 9 (by decide)
              have e152 : a.eval (.tmp 152) = .bool true := hn 16 (by decide)
              exact rel_run (v := .bool true) (by clear hn hr hK; generalize a.eval = ρ at *; simp [execOp, e145, e152, go_sem]) rfl (Below.refl _ _) hK
            refine StepAll.cons ?_ ?_
            · intro a wx hn hr hb K hK
              have ec := evc a
              have e153 : a.eval (.tmp 153) = .bool true := hn 17 (by decide)
              exact rel_run (v := .bool true) (by clear hn hr hK; generalize a.eval = ρ at *; simp [execOp, e153, go_sem]) rfl (Below.refl _ _) hK
            refine StepAll.cons ?_ ?_
            · intro a wx hn hr hb K hK
              have ec := evc a
              have e7 : a.eval (.tmp 7) = .pointer (some ⟨b, 0, none⟩) := (hr 7 (by decide)).trans rfl
              exact rel_run (v := .pointer (some ⟨b, 0, none⟩)) (by clear hn hr hK; generalize a.eval = ρ at *; simp [execOp, e7, go_sem]) rfl (Below.refl _ _) hK
            refine StepAll.cons ?_ ?_
            · intro a wx hn hr hb K hK
              have ec := evc a
              have e9 : a.eval (.tmp 9) = .pointer (some ⟨b', 0, none⟩) := (hr 9 (by decide)).trans rfl
              exact rel_run (v := .pointer (some ⟨b', 0, none⟩)) (by clear hn hr hK; generalize a.eval = ρ at *; simp [execOp, e9, go_sem]) rfl (Below.refl _ _) hK
            refine StepAll.cons ?_ ?_
            · intro a wx hn hr hb K hK
              have ec := evc a
              have e155 : a.eval (.tmp 155) = .pointer (some ⟨b, 0, none⟩) := hn 19 (by decide)
              have e156 : a.eval (.tmp 156) = .pointer (some ⟨b', 0, none⟩) := hn 20 (by decide)
              have ef : a.eval (.func 30) = .func (.func 30) #[] #[] := rfl
              exact rel_call (by clear hn hr hK; generalize a.eval = ρ at *; simp [execOp, e155, e156, cf30, ef, go_sem]) ((same2_calls (HH.out.still hb)).mono (fun e w2 h => ⟨_, h.1, rfl, h.2⟩)) hK
            refine StepAll.cons ?_ ?_
            · intro a wx hn hr hb K hK
              have ec := evc a
              have e157 : a.eval (.tmp 157) = .int .i64 1 := hn 21 (by decide)
              exact rel_run (v := .bool true) (by clear hn hr hK; generalize a.eval = ρ at *; simp [execOp, ec, e157, go_sem]) rfl (Below.refl _ _) hK
            refine StepAll.cons ?_ ?_
            · intro a wx hn hr hb K hK
              have ec := evc a
              have e154 : a.eval (.tmp 154) = .bool true := hn 18 (by decide)
              have e158 : a.eval (.tmp 158) = .bool true := hn 22 (by decide)
              exact rel_run (v := .bool true) (by clear hn hr hK; generalize a.eval = ρ at *; simp [execOp, e154, e158, go_sem]) rfl (Below.refl _ _) hK
            refine StepAll.cons ?_ ?_
            · intro a wx hn hr hb K hK
              have ec := evc a
              have e159 : a.eval (.tmp 159) = .bool true := hn 23 (by decide)
              exact rel_run (v := .bool true) (by clear hn hr hK; generalize a.eval = ρ at *; simp [execOp, e159, go_sem]) rfl (Below.refl _ _) hK
            refine StepAll.cons ?_ ?_
            · intro a wx hn hr hb K hK
              have ec := evc a
              have ef : a.eval (.func 27) = .func (.func 27) #[] #[] := rfl
              exact rel_call (by clear hn hr hK; generalize a.eval = ρ at *; simp [execOp, cf27, ef, go_sem]) ((fixed2_calls (Hd.refl wx)).mono (fun e w2 h => ⟨_, h.1, rfl, h.2.below⟩)) hK
            refine StepAll.cons ?_ ?_
            · intro a wx hn hr hb K hK
              have ec := evc a
              have e160 : a.eval (.tmp 160) = .bool true := hn 24 (by decide)
              have e161 : a.eval (.tmp 161) = .bool true := hn 25 (by decide)
              exact rel_run (v := .bool true) (by clear hn hr hK; generalize a.eval = ρ at *; simp [execOp, e160, e161, go_sem]) rfl (Below.refl _ _) hK
            refine StepAll.cons ?_ ?_
            · intro a wx hn hr hb K hK
              have ec := evc a
              have e162 : a.eval (.tmp 162) = .bool true := hn 26 (by decide)
              exact rel_run (v := .bool true) (by clear hn hr hK; generalize a.eval = ρ at *; simp [execOp, e162, go_sem]) rfl (Below.refl _ _) hK
            exact trivial
          intro f w9 hv hb
          have er : f 6 = .bool true := hv 27 (by decide)
          clear hv kR cf20 cf21 cf22 cf27 cf30
          simp only [patchG, Nat.reduceAdd, Nat.reduceLeDiff, decide_true, decide_false, er]
          have H2 := hid (H.out.still hb)
          clear H hb HS HR HH
          go_wp2_with fail
          go_ret
          exact ⟨rfl, H2.out.below⟩
end Go.Proofs.Ytfhpgcgiogmlgaa
