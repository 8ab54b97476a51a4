/-
  TermFields returns true, and writes nothing that was there. For every input.
-/
import Derived.Test.YtfhpgcgiogmlgaaArgsC
import Derived.Test.YtfhpgcgiogmlgaaLawB
import Derived.Test.YtfhpgcgiogmlgaaHd2
import Derived.Test.YtfhpgcgiogmlgaaRel
namespace Go.Proofs.Ytfhpgcgiogmlgaa
open Go.RowKit

theorem Hd.nthk {W w : World} {k : Nat} {o : Obj} : ∀ (i : Nat) {Rs : List Res}, Hd W w Rs → Rs[i]? = some (Blk k o) → w.heap[k]? = some o
  | 0, A :: Rs, h, e => by
    simp only [List.getElem?_cons_zero, Option.some.injEq] at e
    subst e
    exact h.blk
  | i + 1, A :: Rs, h, e => Hd.nthk i h.drop (by simpa using e)
  | _, [], _, e => by simp at e
theorem Hd.front {W w : World} {Rs : List Res} {R : Res} (i : Nat) (h : Hd W w Rs) (e : Rs[i]? = some R) : Hd W w (R :: Rs.eraseIdx i) := by
  have key : ∀ (l : List Res) (i : Nat), l[i]? = some R → l.Perm (R :: l.eraseIdx i) := by
    intro l
    induction l with
    | nil => intro i h; simp at h
    | cons x l ih =>
      intro i h
      cases i with
      | zero =>
        simp only [List.getElem?_cons_zero, Option.some.injEq] at h
        subst h
        exact List.Perm.refl _
      | succ i => exact ((ih i (by simpa using h)).cons x).trans (List.Perm.swap _ _ _)
  exact Hd.perm (key Rs i e) h

set_option maxRecDepth 100000 in
set_option maxHeartbeats 64000000 in
theorem termFields_walk (ad : Option Addr) (len cap : Nat) (ts : List T) (x1 : Int) (b1 : 0 ≤ x1) (b1' : x1 ≤ 255) (x2 : Int) (b2 : 0 ≤ x2) (_b2' : x2 ≤ 255) (W : World) (hlen : len = ts.length) (hmax : len ≤ maxLen) (hts : TermsIn W ad ts) :
    Calls Try.prog 5 #[.slice ad len cap, .int .u8 x1, .int .u8 x2] W fun e w' => e = .returned (.bool true) ∧ Below W.heap.size W w' := by
  have Hlen := hid hlen
  have Hts := hid hts
  have Hmax := hid hmax
  clear hts hlen hmax
  obtain ⟨K, hK⟩ : ∃ K : Int, 1 + x1 % 11 = K := ⟨_, rfl⟩
  obtain ⟨F, hF⟩ : ∃ F : Int, x2 % 5 = F := ⟨_, rfl⟩
  have hK1 : K = 1 ∨ K = 2 ∨ K = 3 ∨ K = 4 ∨ K = 5 ∨ K = 6 ∨ K = 7 ∨ K = 8 ∨ K = 9 ∨ K = 10 ∨ K = 11 := by omega
  have hF1 : F = 0 ∨ F = 1 ∨ F = 2 ∨ F = 3 ∨ F = 4 := by omega
  go_enter Try.func5, Try.ntmps5
  go_wp2_with fail
  refine (stores_calls (Hd.refl W) ad len cap ts Hlen.out Hmax.out Hts.out 10 (by decide)).mono ?_
  rintro e w1 ⟨b, b', L, rfl, hg, hl, hd⟩
  have H := hid hd
  clear hd
  obtain ⟨r1, L1, hq1, hat1, he1, hg1, hl1⟩ := put_ok (m := 1000) hg (may_non 77 : (nonT 77).may L.length) (by omega)
  have HQ1 := hid (show put 1000 L ⟨2, ⟨#[]⟩, 77, 0, 0, 0⟩ = (r1, 0, L1) from hq1)
  have hL1 : 1 ≤ (L1.length : Int) := by have := hat1.lo; have := hat1.hi; omega
  have hL11 : (L1.length : Int) ≤ 11 := by omega
  clear hq1 he1 hg hat1 hl hl1
  have HG1 := hid hg1
  clear hg1
  go_wp2_with fail
  refine (put_c 2 ⟨#[]⟩ 77 0 0 0 HQ1 H.out).mono ?_
  rintro e w2 ⟨rfl, hd⟩
  clear H
  have H := hid hd
  clear hd
  go_wp2_with fail
  have H9 := hid (H.out.bxk (o := .cells #[.int .i64 K, .string ⟨#[]⟩, .int .u64 0, .int .i64 0, .int .i64 0, .int .i64 0] 32 (0, 0)) w2.heap.size rfl)
  clear H
  have H := H9
  clear H9
  have HKK := hid hK
  clear hK
  rcases hK1 with rfl | rfl | rfl | rfl | rfl | rfl | rfl | rfl | rfl | rfl | rfl
  · skip
    refine (parts_calls 1 ⟨#[]⟩ 0 0 0 0 _).mono ?_
    rintro e w3 ⟨pa, rfl, hnew⟩
    have H9 := hid (H.out.still hnew.below)
    clear H hnew
    have H := H9
    clear H9
    rw [show many 1 = 0 from rfl]
    go_wp2_with fail
    refine (len_at H.out).mono ?_
    rintro e w4 ⟨rfl, rfl⟩
    obtain ⟨o1, ho1⟩ : ∃ o1 : Int, (L1.length : Int) = o1 := ⟨_, rfl⟩
    rw [ho1] at hL1 hL11 ⊢
    obtain ⟨r2, L2, hq2, hat2, he2, hg2, hl2⟩ := put_ok (m := 1000) (t := ⟨1, ⟨#[]⟩, 0, 0, 0, 0⟩) HG1.out (by have h0 : (⟨#[]⟩ : ByteArray).size = 0 := rfl; simp [T.may, T.only, many, T.parts, h0]) (by omega)
    have HQ2 := hid hq2
    have HG2 := hid hg2
    have hl20 : (L2.length : Int) ≤ 12 := by omega
    have hl21 : 0 ≤ (L2.length : Int) := by omega
    have HL12 := hid (show o1 ≤ (L2.length : Int) by have := hat2.lo; have := he2.len; omega)
    clear hq2 hg2 hat2 hl2 he2
    have HO1 := hid ho1
    clear ho1
    have hk := Hd.nthk 1 H.out rfl
    have t0 := (cell_of_heap hk 0).trans (show _ = some (.int .i64 1) from rfl)
    have t1 := (cell_of_heap hk 1).trans (show _ = some (.string ⟨#[]⟩) from rfl)
    have t2 := (cell_of_heap hk 2).trans (show _ = some (.int .u64 0) from rfl)
    have t3 := (cell_of_heap hk 3).trans (show _ = some (.int .i64 0) from rfl)
    have t4 := (cell_of_heap hk 4).trans (show _ = some (.int .i64 0) from rfl)
    have t5 := (cell_of_heap hk 5).trans (show _ = some (.int .i64 0) from rfl)
    have ts := (Array.getElem?_eq_some_iff.1 hk).1
    have tf := frozen_of_heap hk
    clear hk
    go_wp2_with fail
    have H9 := hid ((H.out.front 1 rfl).front 1 rfl)
    clear t0 t1 t2 t3 t4 t5 ts tf H
    have H := H9
    clear H9
    refine (put_c 1 ⟨#[]⟩ 0 0 0 0 HQ2 H.out).mono ?_
    rintro e w5 ⟨rfl, hd⟩
    clear H
    have H := hid hd
    clear hd
    rcases hF1 with rfl | rfl | rfl | rfl | rfl
    · skip
      have HFF := hid hF
      have h5 : x2.tmod 5 = 0 := by rw [Int.tmod_eq_emod_of_nonneg b2]; exact hF
      clear hF
      have hk := Hd.nthk 1 H.out rfl
      have t0 := (cell_of_heap hk 0).trans (show _ = some (.int .i64 1) from rfl)
      have t1 := (cell_of_heap hk 1).trans (show _ = some (.string ⟨#[]⟩) from rfl)
      have t2 := (cell_of_heap hk 2).trans (show _ = some (.int .u64 0) from rfl)
      have t3 := (cell_of_heap hk 3).trans (show _ = some (.int .i64 0) from rfl)
      have t4 := (cell_of_heap hk 4).trans (show _ = some (.int .i64 0) from rfl)
      have t5 := (cell_of_heap hk 5).trans (show _ = some (.int .i64 0) from rfl)
      have ts := (Array.getElem?_eq_some_iff.1 hk).1
      have tf := frozen_of_heap hk
      clear hk
      obtain ⟨r3, L3, hq3, -, -, -, -⟩ := put_ok (m := 1000) (t := ⟨1, ⟨#[120]⟩, 0, 0, 0, 0⟩) HG2.out (by have h0 : (⟨#[120]⟩ : ByteArray).size = 1 := rfl; simp [T.may, T.only, many, T.parts, h0]) (by omega)
      have HQ3 := hid hq3
      clear hq3
      go_wp2_with fail
      have H9 := hid (((H.out.front 1 rfl).set 1 (.string ⟨#[120]⟩)).front 1 rfl)
      clear t0 t1 t2 t3 t4 t5 ts tf H
      have H := H9
      clear H9
      refine (put_c 1 ⟨#[120]⟩ 0 0 0 0 HQ3 H.out).mono ?_
      rintro e w7 ⟨rfl, hd⟩
      clear H
      have H := hid hd
      clear hd h5
      have do1 : decide (1 ≤ o1) = true := by simpa using hL1
      go_wp2_with fail
      refine (fixed2_calls H.out).mono ?_
      rintro e w8 ⟨rfl, hd⟩
      clear H
      have H := hid hd
      clear hd
      go_wp2_with fail
      go_ret
      exact ⟨rfl, H.out.below⟩
    · skip
      have HFF := hid hF
      have h5 : x2.tmod 5 = 1 := by rw [Int.tmod_eq_emod_of_nonneg b2]; exact hF
      clear hF
      have hk := Hd.nthk 1 H.out rfl
      have t0 := (cell_of_heap hk 0).trans (show _ = some (.int .i64 1) from rfl)
      have t1 := (cell_of_heap hk 1).trans (show _ = some (.string ⟨#[]⟩) from rfl)
      have t2 := (cell_of_heap hk 2).trans (show _ = some (.int .u64 0) from rfl)
      have t3 := (cell_of_heap hk 3).trans (show _ = some (.int .i64 0) from rfl)
      have t4 := (cell_of_heap hk 4).trans (show _ = some (.int .i64 0) from rfl)
      have t5 := (cell_of_heap hk 5).trans (show _ = some (.int .i64 0) from rfl)
      have ts := (Array.getElem?_eq_some_iff.1 hk).1
      have tf := frozen_of_heap hk
      clear hk
      have HQ3 := hid (put_bad (m := 1000) (L := L2) (t := ⟨1, ⟨#[]⟩, 9, 0, 0, 0⟩) (by simp [T.may, T.only, many, T.parts]))
      go_wp2_with fail
      have H9 := hid (((H.out.front 1 rfl).set 2 (.int .u64 9)).front 1 rfl)
      clear t0 t1 t2 t3 t4 t5 ts tf H
      have H := H9
      clear H9
      refine (put_c 1 ⟨#[]⟩ 9 0 0 0 HQ3 H.out).mono ?_
      rintro e w7 ⟨rfl, hd⟩
      clear H
      have H := hid hd
      clear hd h5
      have do1 : decide (1 ≤ o1) = true := by simpa using hL1
      go_wp2_with fail
      refine (fixed2_calls H.out).mono ?_
      rintro e w8 ⟨rfl, hd⟩
      clear H
      have H := hid hd
      clear hd
      go_wp2_with fail
      go_ret
      exact ⟨rfl, H.out.below⟩
    · skip
      have HFF := hid hF
      have h5 : x2.tmod 5 = 2 := by rw [Int.tmod_eq_emod_of_nonneg b2]; exact hF
      clear hF
      have hk := Hd.nthk 1 H.out rfl
      have t0 := (cell_of_heap hk 0).trans (show _ = some (.int .i64 1) from rfl)
      have t1 := (cell_of_heap hk 1).trans (show _ = some (.string ⟨#[]⟩) from rfl)
      have t2 := (cell_of_heap hk 2).trans (show _ = some (.int .u64 0) from rfl)
      have t3 := (cell_of_heap hk 3).trans (show _ = some (.int .i64 0) from rfl)
      have t4 := (cell_of_heap hk 4).trans (show _ = some (.int .i64 0) from rfl)
      have t5 := (cell_of_heap hk 5).trans (show _ = some (.int .i64 0) from rfl)
      have ts := (Array.getElem?_eq_some_iff.1 hk).1
      have tf := frozen_of_heap hk
      clear hk
      have HQ3 := hid (put_bad (m := 1000) (L := L2) (t := ⟨1, ⟨#[]⟩, 0, ((L2.length : Int) + 1), 0, 0⟩) (by simp [T.may, T.only, many, T.parts] <;> (intros; omega)))
      go_wp2_with fail
      refine (len_at H.out).mono ?_
      rintro e w6 ⟨rfl, rfl⟩
      go_wp2_with fail
      have H9 := hid (((H.out.front 1 rfl).set 3 (.int .i64 ((L2.length : Int) + 1))).front 1 rfl)
      clear t0 t1 t2 t3 t4 t5 ts tf H
      have H := H9
      clear H9
      refine (put_c 1 ⟨#[]⟩ 0 ((L2.length : Int) + 1) 0 0 HQ3 H.out).mono ?_
      rintro e w7 ⟨rfl, hd⟩
      clear H
      have H := hid hd
      clear hd h5
      have do1 : decide (1 ≤ o1) = true := by simpa using hL1
      go_wp2_with fail
      refine (fixed2_calls H.out).mono ?_
      rintro e w8 ⟨rfl, hd⟩
      clear H
      have H := hid hd
      clear hd
      go_wp2_with fail
      go_ret
      exact ⟨rfl, H.out.below⟩
    · skip
      have HFF := hid hF
      have h5 : x2.tmod 5 = 3 := by rw [Int.tmod_eq_emod_of_nonneg b2]; exact hF
      clear hF
      have hk := Hd.nthk 1 H.out rfl
      have t0 := (cell_of_heap hk 0).trans (show _ = some (.int .i64 1) from rfl)
      have t1 := (cell_of_heap hk 1).trans (show _ = some (.string ⟨#[]⟩) from rfl)
      have t2 := (cell_of_heap hk 2).trans (show _ = some (.int .u64 0) from rfl)
      have t3 := (cell_of_heap hk 3).trans (show _ = some (.int .i64 0) from rfl)
      have t4 := (cell_of_heap hk 4).trans (show _ = some (.int .i64 0) from rfl)
      have t5 := (cell_of_heap hk 5).trans (show _ = some (.int .i64 0) from rfl)
      have ts := (Array.getElem?_eq_some_iff.1 hk).1
      have tf := frozen_of_heap hk
      clear hk
      have HQ3 := hid (put_bad (m := 1000) (L := L2) (t := ⟨1, ⟨#[]⟩, 0, 0, ((L2.length : Int) + 5), 0⟩) (by simp [T.may, T.only, many, T.parts] <;> (intros; omega)))
      go_wp2_with fail
      refine (len_at H.out).mono ?_
      rintro e w6 ⟨rfl, rfl⟩
      go_wp2_with fail
      have H9 := hid (((H.out.front 1 rfl).set 4 (.int .i64 ((L2.length : Int) + 5))).front 1 rfl)
      clear t0 t1 t2 t3 t4 t5 ts tf H
      have H := H9
      clear H9
      refine (put_c 1 ⟨#[]⟩ 0 0 ((L2.length : Int) + 5) 0 HQ3 H.out).mono ?_
      rintro e w7 ⟨rfl, hd⟩
      clear H
      have H := hid hd
      clear hd h5
      have do1 : decide (1 ≤ o1) = true := by simpa using hL1
      go_wp2_with fail
      refine (fixed2_calls H.out).mono ?_
      rintro e w8 ⟨rfl, hd⟩
      clear H
      have H := hid hd
      clear hd
      go_wp2_with fail
      go_ret
      exact ⟨rfl, H.out.below⟩
    · skip
      have HFF := hid hF
      have h5 : x2.tmod 5 = 4 := by rw [Int.tmod_eq_emod_of_nonneg b2]; exact hF
      clear hF
      have hk := Hd.nthk 1 H.out rfl
      have t0 := (cell_of_heap hk 0).trans (show _ = some (.int .i64 1) from rfl)
      have t1 := (cell_of_heap hk 1).trans (show _ = some (.string ⟨#[]⟩) from rfl)
      have t2 := (cell_of_heap hk 2).trans (show _ = some (.int .u64 0) from rfl)
      have t3 := (cell_of_heap hk 3).trans (show _ = some (.int .i64 0) from rfl)
      have t4 := (cell_of_heap hk 4).trans (show _ = some (.int .i64 0) from rfl)
      have t5 := (cell_of_heap hk 5).trans (show _ = some (.int .i64 0) from rfl)
      have ts := (Array.getElem?_eq_some_iff.1 hk).1
      have tf := frozen_of_heap hk
      clear hk
      have HQ3 := hid (put_bad (m := 1000) (L := L2) (t := ⟨1, ⟨#[]⟩, 0, 0, 0, (-1)⟩) (by simp [T.may, T.only, many, T.parts]))
      go_wp2_with fail
      have H9 := hid (((H.out.front 1 rfl).set 5 (.int .i64 (-1))).front 1 rfl)
      clear t0 t1 t2 t3 t4 t5 ts tf H
      have H := H9
      clear H9
      refine (put_c 1 ⟨#[]⟩ 0 0 0 (-1) HQ3 H.out).mono ?_
      rintro e w7 ⟨rfl, hd⟩
      clear H
      have H := hid hd
      clear hd h5
      have do1 : decide (1 ≤ o1) = true := by simpa using hL1
      go_wp2_with fail
      refine (fixed2_calls H.out).mono ?_
      rintro e w8 ⟨rfl, hd⟩
      clear H
      have H := hid hd
      clear hd
      go_wp2_with fail
      go_ret
      exact ⟨rfl, H.out.below⟩
  · skip
    refine (parts_calls 2 ⟨#[]⟩ 0 0 0 0 _).mono ?_
    rintro e w3 ⟨pa, rfl, hnew⟩
    have H9 := hid (H.out.still hnew.below)
    clear H hnew
    have H := H9
    clear H9
    rw [show many 2 = 0 from rfl]
    go_wp2_with fail
    refine (len_at H.out).mono ?_
    rintro e w4 ⟨rfl, rfl⟩
    obtain ⟨o1, ho1⟩ : ∃ o1 : Int, (L1.length : Int) = o1 := ⟨_, rfl⟩
    rw [ho1] at hL1 hL11 ⊢
    obtain ⟨r2, L2, hq2, hat2, he2, hg2, hl2⟩ := put_ok (m := 1000) (t := ⟨2, ⟨#[]⟩, 0, 0, 0, 0⟩) HG1.out (by have h0 : (⟨#[]⟩ : ByteArray).size = 0 := rfl; simp [T.may, T.only, many, T.parts, h0]) (by omega)
    have HQ2 := hid hq2
    have HG2 := hid hg2
    have hl20 : (L2.length : Int) ≤ 12 := by omega
    have hl21 : 0 ≤ (L2.length : Int) := by omega
    have HL12 := hid (show o1 ≤ (L2.length : Int) by have := hat2.lo; have := he2.len; omega)
    clear hq2 hg2 hat2 hl2 he2
    have HO1 := hid ho1
    clear ho1
    have hk := Hd.nthk 1 H.out rfl
    have t0 := (cell_of_heap hk 0).trans (show _ = some (.int .i64 2) from rfl)
    have t1 := (cell_of_heap hk 1).trans (show _ = some (.string ⟨#[]⟩) from rfl)
    have t2 := (cell_of_heap hk 2).trans (show _ = some (.int .u64 0) from rfl)
    have t3 := (cell_of_heap hk 3).trans (show _ = some (.int .i64 0) from rfl)
    have t4 := (cell_of_heap hk 4).trans (show _ = some (.int .i64 0) from rfl)
    have t5 := (cell_of_heap hk 5).trans (show _ = some (.int .i64 0) from rfl)
    have ts := (Array.getElem?_eq_some_iff.1 hk).1
    have tf := frozen_of_heap hk
    clear hk
    go_wp2_with fail
    have H9 := hid ((H.out.front 1 rfl).front 1 rfl)
    clear t0 t1 t2 t3 t4 t5 ts tf H
    have H := H9
    clear H9
    refine (put_c 2 ⟨#[]⟩ 0 0 0 0 HQ2 H.out).mono ?_
    rintro e w5 ⟨rfl, hd⟩
    clear H
    have H := hid hd
    clear hd
    rcases hF1 with rfl | rfl | rfl | rfl | rfl
    · skip
      have HFF := hid hF
      have h5 : x2.tmod 5 = 0 := by rw [Int.tmod_eq_emod_of_nonneg b2]; exact hF
      clear hF
      have hk := Hd.nthk 1 H.out rfl
      have t0 := (cell_of_heap hk 0).trans (show _ = some (.int .i64 2) from rfl)
      have t1 := (cell_of_heap hk 1).trans (show _ = some (.string ⟨#[]⟩) from rfl)
      have t2 := (cell_of_heap hk 2).trans (show _ = some (.int .u64 0) from rfl)
      have t3 := (cell_of_heap hk 3).trans (show _ = some (.int .i64 0) from rfl)
      have t4 := (cell_of_heap hk 4).trans (show _ = some (.int .i64 0) from rfl)
      have t5 := (cell_of_heap hk 5).trans (show _ = some (.int .i64 0) from rfl)
      have ts := (Array.getElem?_eq_some_iff.1 hk).1
      have tf := frozen_of_heap hk
      clear hk
      have HQ3 := hid (put_bad (m := 1000) (L := L2) (t := ⟨2, ⟨#[120]⟩, 0, 0, 0, 0⟩) (by simp [T.may, T.only, many, T.parts]))
      go_wp2_with fail
      have H9 := hid (((H.out.front 1 rfl).set 1 (.string ⟨#[120]⟩)).front 1 rfl)
      clear t0 t1 t2 t3 t4 t5 ts tf H
      have H := H9
      clear H9
      refine (put_c 2 ⟨#[120]⟩ 0 0 0 0 HQ3 H.out).mono ?_
      rintro e w7 ⟨rfl, hd⟩
      clear H
      have H := hid hd
      clear hd h5
      have do1 : decide (1 ≤ o1) = true := by simpa using hL1
      go_wp2_with fail
      refine (fixed2_calls H.out).mono ?_
      rintro e w8 ⟨rfl, hd⟩
      clear H
      have H := hid hd
      clear hd
      go_wp2_with fail
      go_ret
      exact ⟨rfl, H.out.below⟩
    · skip
      have HFF := hid hF
      have h5 : x2.tmod 5 = 1 := by rw [Int.tmod_eq_emod_of_nonneg b2]; exact hF
      clear hF
      have hk := Hd.nthk 1 H.out rfl
      have t0 := (cell_of_heap hk 0).trans (show _ = some (.int .i64 2) from rfl)
      have t1 := (cell_of_heap hk 1).trans (show _ = some (.string ⟨#[]⟩) from rfl)
      have t2 := (cell_of_heap hk 2).trans (show _ = some (.int .u64 0) from rfl)
      have t3 := (cell_of_heap hk 3).trans (show _ = some (.int .i64 0) from rfl)
      have t4 := (cell_of_heap hk 4).trans (show _ = some (.int .i64 0) from rfl)
      have t5 := (cell_of_heap hk 5).trans (show _ = some (.int .i64 0) from rfl)
      have ts := (Array.getElem?_eq_some_iff.1 hk).1
      have tf := frozen_of_heap hk
      clear hk
      obtain ⟨r3, L3, hq3, -, -, -, -⟩ := put_ok (m := 1000) (t := ⟨2, ⟨#[]⟩, 9, 0, 0, 0⟩) HG2.out (by have h0 : (⟨#[]⟩ : ByteArray).size = 0 := rfl; simp [T.may, T.only, many, T.parts, h0]) (by omega)
      have HQ3 := hid hq3
      clear hq3
      go_wp2_with fail
      have H9 := hid (((H.out.front 1 rfl).set 2 (.int .u64 9)).front 1 rfl)
      clear t0 t1 t2 t3 t4 t5 ts tf H
      have H := H9
      clear H9
      refine (put_c 2 ⟨#[]⟩ 9 0 0 0 HQ3 H.out).mono ?_
      rintro e w7 ⟨rfl, hd⟩
      clear H
      have H := hid hd
      clear hd h5
      have do1 : decide (1 ≤ o1) = true := by simpa using hL1
      go_wp2_with fail
      refine (fixed2_calls H.out).mono ?_
      rintro e w8 ⟨rfl, hd⟩
      clear H
      have H := hid hd
      clear hd
      go_wp2_with fail
      go_ret
      exact ⟨rfl, H.out.below⟩
    · skip
      have HFF := hid hF
      have h5 : x2.tmod 5 = 2 := by rw [Int.tmod_eq_emod_of_nonneg b2]; exact hF
      clear hF
      have hk := Hd.nthk 1 H.out rfl
      have t0 := (cell_of_heap hk 0).trans (show _ = some (.int .i64 2) from rfl)
      have t1 := (cell_of_heap hk 1).trans (show _ = some (.string ⟨#[]⟩) from rfl)
      have t2 := (cell_of_heap hk 2).trans (show _ = some (.int .u64 0) from rfl)
      have t3 := (cell_of_heap hk 3).trans (show _ = some (.int .i64 0) from rfl)
      have t4 := (cell_of_heap hk 4).trans (show _ = some (.int .i64 0) from rfl)
      have t5 := (cell_of_heap hk 5).trans (show _ = some (.int .i64 0) from rfl)
      have ts := (Array.getElem?_eq_some_iff.1 hk).1
      have tf := frozen_of_heap hk
      clear hk
      have HQ3 := hid (put_bad (m := 1000) (L := L2) (t := ⟨2, ⟨#[]⟩, 0, ((L2.length : Int) + 1), 0, 0⟩) (by simp [T.may, T.only, many, T.parts] <;> (intros; omega)))
      go_wp2_with fail
      refine (len_at H.out).mono ?_
      rintro e w6 ⟨rfl, rfl⟩
      go_wp2_with fail
      have H9 := hid (((H.out.front 1 rfl).set 3 (.int .i64 ((L2.length : Int) + 1))).front 1 rfl)
      clear t0 t1 t2 t3 t4 t5 ts tf H
      have H := H9
      clear H9
      refine (put_c 2 ⟨#[]⟩ 0 ((L2.length : Int) + 1) 0 0 HQ3 H.out).mono ?_
      rintro e w7 ⟨rfl, hd⟩
      clear H
      have H := hid hd
      clear hd h5
      have do1 : decide (1 ≤ o1) = true := by simpa using hL1
      go_wp2_with fail
      refine (fixed2_calls H.out).mono ?_
      rintro e w8 ⟨rfl, hd⟩
      clear H
      have H := hid hd
      clear hd
      go_wp2_with fail
      go_ret
      exact ⟨rfl, H.out.below⟩
    · skip
      have HFF := hid hF
      have h5 : x2.tmod 5 = 3 := by rw [Int.tmod_eq_emod_of_nonneg b2]; exact hF
      clear hF
      have hk := Hd.nthk 1 H.out rfl
      have t0 := (cell_of_heap hk 0).trans (show _ = some (.int .i64 2) from rfl)
      have t1 := (cell_of_heap hk 1).trans (show _ = some (.string ⟨#[]⟩) from rfl)
      have t2 := (cell_of_heap hk 2).trans (show _ = some (.int .u64 0) from rfl)
      have t3 := (cell_of_heap hk 3).trans (show _ = some (.int .i64 0) from rfl)
      have t4 := (cell_of_heap hk 4).trans (show _ = some (.int .i64 0) from rfl)
      have t5 := (cell_of_heap hk 5).trans (show _ = some (.int .i64 0) from rfl)
      have ts := (Array.getElem?_eq_some_iff.1 hk).1
      have tf := frozen_of_heap hk
      clear hk
      have HQ3 := hid (put_bad (m := 1000) (L := L2) (t := ⟨2, ⟨#[]⟩, 0, 0, ((L2.length : Int) + 5), 0⟩) (by simp [T.may, T.only, many, T.parts] <;> (intros; omega)))
      go_wp2_with fail
      refine (len_at H.out).mono ?_
      rintro e w6 ⟨rfl, rfl⟩
      go_wp2_with fail
      have H9 := hid (((H.out.front 1 rfl).set 4 (.int .i64 ((L2.length : Int) + 5))).front 1 rfl)
      clear t0 t1 t2 t3 t4 t5 ts tf H
      have H := H9
      clear H9
      refine (put_c 2 ⟨#[]⟩ 0 0 ((L2.length : Int) + 5) 0 HQ3 H.out).mono ?_
      rintro e w7 ⟨rfl, hd⟩
      clear H
      have H := hid hd
      clear hd h5
      have do1 : decide (1 ≤ o1) = true := by simpa using hL1
      go_wp2_with fail
      refine (fixed2_calls H.out).mono ?_
      rintro e w8 ⟨rfl, hd⟩
      clear H
      have H := hid hd
      clear hd
      go_wp2_with fail
      go_ret
      exact ⟨rfl, H.out.below⟩
    · skip
      have HFF := hid hF
      have h5 : x2.tmod 5 = 4 := by rw [Int.tmod_eq_emod_of_nonneg b2]; exact hF
      clear hF
      have hk := Hd.nthk 1 H.out rfl
      have t0 := (cell_of_heap hk 0).trans (show _ = some (.int .i64 2) from rfl)
      have t1 := (cell_of_heap hk 1).trans (show _ = some (.string ⟨#[]⟩) from rfl)
      have t2 := (cell_of_heap hk 2).trans (show _ = some (.int .u64 0) from rfl)
      have t3 := (cell_of_heap hk 3).trans (show _ = some (.int .i64 0) from rfl)
      have t4 := (cell_of_heap hk 4).trans (show _ = some (.int .i64 0) from rfl)
      have t5 := (cell_of_heap hk 5).trans (show _ = some (.int .i64 0) from rfl)
      have ts := (Array.getElem?_eq_some_iff.1 hk).1
      have tf := frozen_of_heap hk
      clear hk
      have HQ3 := hid (put_bad (m := 1000) (L := L2) (t := ⟨2, ⟨#[]⟩, 0, 0, 0, (-1)⟩) (by simp [T.may, T.only, many, T.parts]))
      go_wp2_with fail
      have H9 := hid (((H.out.front 1 rfl).set 5 (.int .i64 (-1))).front 1 rfl)
      clear t0 t1 t2 t3 t4 t5 ts tf H
      have H := H9
      clear H9
      refine (put_c 2 ⟨#[]⟩ 0 0 0 (-1) HQ3 H.out).mono ?_
      rintro e w7 ⟨rfl, hd⟩
      clear H
      have H := hid hd
      clear hd h5
      have do1 : decide (1 ≤ o1) = true := by simpa using hL1
      go_wp2_with fail
      refine (fixed2_calls H.out).mono ?_
      rintro e w8 ⟨rfl, hd⟩
      clear H
      have H := hid hd
      clear hd
      go_wp2_with fail
      go_ret
      exact ⟨rfl, H.out.below⟩
  · skip
    refine (parts_calls 3 ⟨#[]⟩ 0 0 0 0 _).mono ?_
    rintro e w3 ⟨pa, rfl, hnew⟩
    have H9 := hid (H.out.still hnew.below)
    clear H hnew
    have H := H9
    clear H9
    rw [show many 3 = 1 from rfl]
    go_wp2_with fail
    refine (len_at H.out).mono ?_
    rintro e w4 ⟨rfl, rfl⟩
    obtain ⟨o1, ho1⟩ : ∃ o1 : Int, (L1.length : Int) = o1 := ⟨_, rfl⟩
    rw [ho1] at hL1 hL11 ⊢
    obtain ⟨r2, L2, hq2, hat2, he2, hg2, hl2⟩ := put_ok (m := 1000) (t := ⟨3, ⟨#[]⟩, 0, o1, 0, 0⟩) HG1.out (by have h0 : (⟨#[]⟩ : ByteArray).size = 0 := rfl; simp [T.may, T.only, many, T.parts, h0] <;> omega) (by omega)
    have HQ2 := hid hq2
    have HG2 := hid hg2
    have hl20 : (L2.length : Int) ≤ 12 := by omega
    have hl21 : 0 ≤ (L2.length : Int) := by omega
    have HL12 := hid (show o1 ≤ (L2.length : Int) by have := hat2.lo; have := he2.len; omega)
    clear hq2 hg2 hat2 hl2 he2
    have HO1 := hid ho1
    clear ho1
    have hk := Hd.nthk 1 H.out rfl
    have t0 := (cell_of_heap hk 0).trans (show _ = some (.int .i64 3) from rfl)
    have t1 := (cell_of_heap hk 1).trans (show _ = some (.string ⟨#[]⟩) from rfl)
    have t2 := (cell_of_heap hk 2).trans (show _ = some (.int .u64 0) from rfl)
    have t3 := (cell_of_heap hk 3).trans (show _ = some (.int .i64 0) from rfl)
    have t4 := (cell_of_heap hk 4).trans (show _ = some (.int .i64 0) from rfl)
    have t5 := (cell_of_heap hk 5).trans (show _ = some (.int .i64 0) from rfl)
    have ts := (Array.getElem?_eq_some_iff.1 hk).1
    have tf := frozen_of_heap hk
    clear hk
    go_wp2_with fail
    have H9 := hid (((H.out.front 1 rfl).set 3 (.int .i64 o1)).front 1 rfl)
    clear t0 t1 t2 t3 t4 t5 ts tf H
    have H := H9
    clear H9
    refine (put_c 3 ⟨#[]⟩ 0 o1 0 0 HQ2 H.out).mono ?_
    rintro e w5 ⟨rfl, hd⟩
    clear H
    have H := hid hd
    clear hd
    rcases hF1 with rfl | rfl | rfl | rfl | rfl
    · skip
      have HFF := hid hF
      have h5 : x2.tmod 5 = 0 := by rw [Int.tmod_eq_emod_of_nonneg b2]; exact hF
      clear hF
      have hk := Hd.nthk 1 H.out rfl
      have t0 := (cell_of_heap hk 0).trans (show _ = some (.int .i64 3) from rfl)
      have t1 := (cell_of_heap hk 1).trans (show _ = some (.string ⟨#[]⟩) from rfl)
      have t2 := (cell_of_heap hk 2).trans (show _ = some (.int .u64 0) from rfl)
      have t3 := (cell_of_heap hk 3).trans (show _ = some (.int .i64 o1) from rfl)
      have t4 := (cell_of_heap hk 4).trans (show _ = some (.int .i64 0) from rfl)
      have t5 := (cell_of_heap hk 5).trans (show _ = some (.int .i64 0) from rfl)
      have ts := (Array.getElem?_eq_some_iff.1 hk).1
      have tf := frozen_of_heap hk
      clear hk
      have HQ3 := hid (put_bad (m := 1000) (L := L2) (t := ⟨3, ⟨#[120]⟩, 0, o1, 0, 0⟩) (by simp [T.may, T.only, many, T.parts]))
      go_wp2_with fail
      have H9 := hid (((H.out.front 1 rfl).set 1 (.string ⟨#[120]⟩)).front 1 rfl)
      clear t0 t1 t2 t3 t4 t5 ts tf H
      have H := H9
      clear H9
      refine (put_c 3 ⟨#[120]⟩ 0 o1 0 0 HQ3 H.out).mono ?_
      rintro e w7 ⟨rfl, hd⟩
      clear H
      have H := hid hd
      clear hd h5
      have do1 : decide (1 ≤ o1) = true := by simpa using hL1
      go_wp2_with fail
      refine (fixed2_calls H.out).mono ?_
      rintro e w8 ⟨rfl, hd⟩
      clear H
      have H := hid hd
      clear hd
      go_wp2_with fail
      go_ret
      exact ⟨rfl, H.out.below⟩
    · skip
      have HFF := hid hF
      have h5 : x2.tmod 5 = 1 := by rw [Int.tmod_eq_emod_of_nonneg b2]; exact hF
      clear hF
      have hk := Hd.nthk 1 H.out rfl
      have t0 := (cell_of_heap hk 0).trans (show _ = some (.int .i64 3) from rfl)
      have t1 := (cell_of_heap hk 1).trans (show _ = some (.string ⟨#[]⟩) from rfl)
      have t2 := (cell_of_heap hk 2).trans (show _ = some (.int .u64 0) from rfl)
      have t3 := (cell_of_heap hk 3).trans (show _ = some (.int .i64 o1) from rfl)
      have t4 := (cell_of_heap hk 4).trans (show _ = some (.int .i64 0) from rfl)
      have t5 := (cell_of_heap hk 5).trans (show _ = some (.int .i64 0) from rfl)
      have ts := (Array.getElem?_eq_some_iff.1 hk).1
      have tf := frozen_of_heap hk
      clear hk
      have HQ3 := hid (put_bad (m := 1000) (L := L2) (t := ⟨3, ⟨#[]⟩, 9, o1, 0, 0⟩) (by simp [T.may, T.only, many, T.parts]))
      go_wp2_with fail
      have H9 := hid (((H.out.front 1 rfl).set 2 (.int .u64 9)).front 1 rfl)
      clear t0 t1 t2 t3 t4 t5 ts tf H
      have H := H9
      clear H9
      refine (put_c 3 ⟨#[]⟩ 9 o1 0 0 HQ3 H.out).mono ?_
      rintro e w7 ⟨rfl, hd⟩
      clear H
      have H := hid hd
      clear hd h5
      have do1 : decide (1 ≤ o1) = true := by simpa using hL1
      go_wp2_with fail
      refine (fixed2_calls H.out).mono ?_
      rintro e w8 ⟨rfl, hd⟩
      clear H
      have H := hid hd
      clear hd
      go_wp2_with fail
      go_ret
      exact ⟨rfl, H.out.below⟩
    · skip
      have HFF := hid hF
      have h5 : x2.tmod 5 = 2 := by rw [Int.tmod_eq_emod_of_nonneg b2]; exact hF
      clear hF
      have hk := Hd.nthk 1 H.out rfl
      have t0 := (cell_of_heap hk 0).trans (show _ = some (.int .i64 3) from rfl)
      have t1 := (cell_of_heap hk 1).trans (show _ = some (.string ⟨#[]⟩) from rfl)
      have t2 := (cell_of_heap hk 2).trans (show _ = some (.int .u64 0) from rfl)
      have t3 := (cell_of_heap hk 3).trans (show _ = some (.int .i64 o1) from rfl)
      have t4 := (cell_of_heap hk 4).trans (show _ = some (.int .i64 0) from rfl)
      have t5 := (cell_of_heap hk 5).trans (show _ = some (.int .i64 0) from rfl)
      have ts := (Array.getElem?_eq_some_iff.1 hk).1
      have tf := frozen_of_heap hk
      clear hk
      have HQ3 := hid (put_bad (m := 1000) (L := L2) (t := ⟨3, ⟨#[]⟩, 0, ((L2.length : Int) + 1), 0, 0⟩) (by simp [T.may, T.only, many, T.parts] <;> (intros; omega)))
      go_wp2_with fail
      refine (len_at H.out).mono ?_
      rintro e w6 ⟨rfl, rfl⟩
      go_wp2_with fail
      have H9 := hid (((H.out.front 1 rfl).set 3 (.int .i64 ((L2.length : Int) + 1))).front 1 rfl)
      clear t0 t1 t2 t3 t4 t5 ts tf H
      have H := H9
      clear H9
      refine (put_c 3 ⟨#[]⟩ 0 ((L2.length : Int) + 1) 0 0 HQ3 H.out).mono ?_
      rintro e w7 ⟨rfl, hd⟩
      clear H
      have H := hid hd
      clear hd h5
      have do1 : decide (1 ≤ o1) = true := by simpa using hL1
      go_wp2_with fail
      refine (fixed2_calls H.out).mono ?_
      rintro e w8 ⟨rfl, hd⟩
      clear H
      have H := hid hd
      clear hd
      go_wp2_with fail
      go_ret
      exact ⟨rfl, H.out.below⟩
    · skip
      have HFF := hid hF
      have h5 : x2.tmod 5 = 3 := by rw [Int.tmod_eq_emod_of_nonneg b2]; exact hF
      clear hF
      have hk := Hd.nthk 1 H.out rfl
      have t0 := (cell_of_heap hk 0).trans (show _ = some (.int .i64 3) from rfl)
      have t1 := (cell_of_heap hk 1).trans (show _ = some (.string ⟨#[]⟩) from rfl)
      have t2 := (cell_of_heap hk 2).trans (show _ = some (.int .u64 0) from rfl)
      have t3 := (cell_of_heap hk 3).trans (show _ = some (.int .i64 o1) from rfl)
      have t4 := (cell_of_heap hk 4).trans (show _ = some (.int .i64 0) from rfl)
      have t5 := (cell_of_heap hk 5).trans (show _ = some (.int .i64 0) from rfl)
      have ts := (Array.getElem?_eq_some_iff.1 hk).1
      have tf := frozen_of_heap hk
      clear hk
      have HQ3 := hid (put_bad (m := 1000) (L := L2) (t := ⟨3, ⟨#[]⟩, 0, o1, ((L2.length : Int) + 5), 0⟩) (by simp [T.may, T.only, many, T.parts] <;> (intros; omega)))
      go_wp2_with fail
      refine (len_at H.out).mono ?_
      rintro e w6 ⟨rfl, rfl⟩
      go_wp2_with fail
      have H9 := hid (((H.out.front 1 rfl).set 4 (.int .i64 ((L2.length : Int) + 5))).front 1 rfl)
      clear t0 t1 t2 t3 t4 t5 ts tf H
      have H := H9
      clear H9
      refine (put_c 3 ⟨#[]⟩ 0 o1 ((L2.length : Int) + 5) 0 HQ3 H.out).mono ?_
      rintro e w7 ⟨rfl, hd⟩
      clear H
      have H := hid hd
      clear hd h5
      have do1 : decide (1 ≤ o1) = true := by simpa using hL1
      go_wp2_with fail
      refine (fixed2_calls H.out).mono ?_
      rintro e w8 ⟨rfl, hd⟩
      clear H
      have H := hid hd
      clear hd
      go_wp2_with fail
      go_ret
      exact ⟨rfl, H.out.below⟩
    · skip
      have HFF := hid hF
      have h5 : x2.tmod 5 = 4 := by rw [Int.tmod_eq_emod_of_nonneg b2]; exact hF
      clear hF
      have hk := Hd.nthk 1 H.out rfl
      have t0 := (cell_of_heap hk 0).trans (show _ = some (.int .i64 3) from rfl)
      have t1 := (cell_of_heap hk 1).trans (show _ = some (.string ⟨#[]⟩) from rfl)
      have t2 := (cell_of_heap hk 2).trans (show _ = some (.int .u64 0) from rfl)
      have t3 := (cell_of_heap hk 3).trans (show _ = some (.int .i64 o1) from rfl)
      have t4 := (cell_of_heap hk 4).trans (show _ = some (.int .i64 0) from rfl)
      have t5 := (cell_of_heap hk 5).trans (show _ = some (.int .i64 0) from rfl)
      have ts := (Array.getElem?_eq_some_iff.1 hk).1
      have tf := frozen_of_heap hk
      clear hk
      have HQ3 := hid (put_bad (m := 1000) (L := L2) (t := ⟨3, ⟨#[]⟩, 0, o1, 0, (-1)⟩) (by simp [T.may, T.only, many, T.parts]))
      go_wp2_with fail
      have H9 := hid (((H.out.front 1 rfl).set 5 (.int .i64 (-1))).front 1 rfl)
      clear t0 t1 t2 t3 t4 t5 ts tf H
      have H := H9
      clear H9
      refine (put_c 3 ⟨#[]⟩ 0 o1 0 (-1) HQ3 H.out).mono ?_
      rintro e w7 ⟨rfl, hd⟩
      clear H
      have H := hid hd
      clear hd h5
      have do1 : decide (1 ≤ o1) = true := by simpa using hL1
      go_wp2_with fail
      refine (fixed2_calls H.out).mono ?_
      rintro e w8 ⟨rfl, hd⟩
      clear H
      have H := hid hd
      clear hd
      go_wp2_with fail
      go_ret
      exact ⟨rfl, H.out.below⟩
  · skip
    refine (parts_calls 4 ⟨#[]⟩ 0 0 0 0 _).mono ?_
    rintro e w3 ⟨pa, rfl, hnew⟩
    have H9 := hid (H.out.still hnew.below)
    clear H hnew
    have H := H9
    clear H9
    rw [show many 4 = 2 from rfl]
    go_wp2_with fail
    refine (len_at H.out).mono ?_
    rintro e w4 ⟨rfl, rfl⟩
    obtain ⟨o1, ho1⟩ : ∃ o1 : Int, (L1.length : Int) = o1 := ⟨_, rfl⟩
    rw [ho1] at hL1 hL11 ⊢
    obtain ⟨r2, L2, hq2, hat2, he2, hg2, hl2⟩ := put_ok (m := 1000) (t := ⟨4, ⟨#[]⟩, 0, o1, o1, 0⟩) HG1.out (by have h0 : (⟨#[]⟩ : ByteArray).size = 0 := rfl; simp [T.may, T.only, many, T.parts, h0] <;> omega) (by omega)
    have HQ2 := hid hq2
    have HG2 := hid hg2
    have hl20 : (L2.length : Int) ≤ 12 := by omega
    have hl21 : 0 ≤ (L2.length : Int) := by omega
    have HL12 := hid (show o1 ≤ (L2.length : Int) by have := hat2.lo; have := he2.len; omega)
    clear hq2 hg2 hat2 hl2 he2
    have HO1 := hid ho1
    clear ho1
    have hk := Hd.nthk 1 H.out rfl
    have t0 := (cell_of_heap hk 0).trans (show _ = some (.int .i64 4) from rfl)
    have t1 := (cell_of_heap hk 1).trans (show _ = some (.string ⟨#[]⟩) from rfl)
    have t2 := (cell_of_heap hk 2).trans (show _ = some (.int .u64 0) from rfl)
    have t3 := (cell_of_heap hk 3).trans (show _ = some (.int .i64 0) from rfl)
    have t4 := (cell_of_heap hk 4).trans (show _ = some (.int .i64 0) from rfl)
    have t5 := (cell_of_heap hk 5).trans (show _ = some (.int .i64 0) from rfl)
    have ts := (Array.getElem?_eq_some_iff.1 hk).1
    have tf := frozen_of_heap hk
    clear hk
    go_wp2_with fail
    have H9 := hid ((((H.out.front 1 rfl).set 3 (.int .i64 o1)).set 4 (.int .i64 o1)).front 1 rfl)
    clear t0 t1 t2 t3 t4 t5 ts tf H
    have H := H9
    clear H9
    refine (put_c 4 ⟨#[]⟩ 0 o1 o1 0 HQ2 H.out).mono ?_
    rintro e w5 ⟨rfl, hd⟩
    clear H
    have H := hid hd
    clear hd
    rcases hF1 with rfl | rfl | rfl | rfl | rfl
    · skip
      have HFF := hid hF
      have h5 : x2.tmod 5 = 0 := by rw [Int.tmod_eq_emod_of_nonneg b2]; exact hF
      clear hF
      have hk := Hd.nthk 1 H.out rfl
      have t0 := (cell_of_heap hk 0).trans (show _ = some (.int .i64 4) from rfl)
      have t1 := (cell_of_heap hk 1).trans (show _ = some (.string ⟨#[]⟩) from rfl)
      have t2 := (cell_of_heap hk 2).trans (show _ = some (.int .u64 0) from rfl)
      have t3 := (cell_of_heap hk 3).trans (show _ = some (.int .i64 o1) from rfl)
      have t4 := (cell_of_heap hk 4).trans (show _ = some (.int .i64 o1) from rfl)
      have t5 := (cell_of_heap hk 5).trans (show _ = some (.int .i64 0) from rfl)
      have ts := (Array.getElem?_eq_some_iff.1 hk).1
      have tf := frozen_of_heap hk
      clear hk
      have HQ3 := hid (put_bad (m := 1000) (L := L2) (t := ⟨4, ⟨#[120]⟩, 0, o1, o1, 0⟩) (by simp [T.may, T.only, many, T.parts]))
      go_wp2_with fail
      have H9 := hid (((H.out.front 1 rfl).set 1 (.string ⟨#[120]⟩)).front 1 rfl)
      clear t0 t1 t2 t3 t4 t5 ts tf H
      have H := H9
      clear H9
      refine (put_c 4 ⟨#[120]⟩ 0 o1 o1 0 HQ3 H.out).mono ?_
      rintro e w7 ⟨rfl, hd⟩
      clear H
      have H := hid hd
      clear hd h5
      have do1 : decide (1 ≤ o1) = true := by simpa using hL1
      go_wp2_with fail
      refine (fixed2_calls H.out).mono ?_
      rintro e w8 ⟨rfl, hd⟩
      clear H
      have H := hid hd
      clear hd
      go_wp2_with fail
      go_ret
      exact ⟨rfl, H.out.below⟩
    · skip
      have HFF := hid hF
      have h5 : x2.tmod 5 = 1 := by rw [Int.tmod_eq_emod_of_nonneg b2]; exact hF
      clear hF
      have hk := Hd.nthk 1 H.out rfl
      have t0 := (cell_of_heap hk 0).trans (show _ = some (.int .i64 4) from rfl)
      have t1 := (cell_of_heap hk 1).trans (show _ = some (.string ⟨#[]⟩) from rfl)
      have t2 := (cell_of_heap hk 2).trans (show _ = some (.int .u64 0) from rfl)
      have t3 := (cell_of_heap hk 3).trans (show _ = some (.int .i64 o1) from rfl)
      have t4 := (cell_of_heap hk 4).trans (show _ = some (.int .i64 o1) from rfl)
      have t5 := (cell_of_heap hk 5).trans (show _ = some (.int .i64 0) from rfl)
      have ts := (Array.getElem?_eq_some_iff.1 hk).1
      have tf := frozen_of_heap hk
      clear hk
      have HQ3 := hid (put_bad (m := 1000) (L := L2) (t := ⟨4, ⟨#[]⟩, 9, o1, o1, 0⟩) (by simp [T.may, T.only, many, T.parts]))
      go_wp2_with fail
      have H9 := hid (((H.out.front 1 rfl).set 2 (.int .u64 9)).front 1 rfl)
      clear t0 t1 t2 t3 t4 t5 ts tf H
      have H := H9
      clear H9
      refine (put_c 4 ⟨#[]⟩ 9 o1 o1 0 HQ3 H.out).mono ?_
      rintro e w7 ⟨rfl, hd⟩
      clear H
      have H := hid hd
      clear hd h5
      have do1 : decide (1 ≤ o1) = true := by simpa using hL1
      go_wp2_with fail
      refine (fixed2_calls H.out).mono ?_
      rintro e w8 ⟨rfl, hd⟩
      clear H
      have H := hid hd
      clear hd
      go_wp2_with fail
      go_ret
      exact ⟨rfl, H.out.below⟩
    · skip
      have HFF := hid hF
      have h5 : x2.tmod 5 = 2 := by rw [Int.tmod_eq_emod_of_nonneg b2]; exact hF
      clear hF
      have hk := Hd.nthk 1 H.out rfl
      have t0 := (cell_of_heap hk 0).trans (show _ = some (.int .i64 4) from rfl)
      have t1 := (cell_of_heap hk 1).trans (show _ = some (.string ⟨#[]⟩) from rfl)
      have t2 := (cell_of_heap hk 2).trans (show _ = some (.int .u64 0) from rfl)
      have t3 := (cell_of_heap hk 3).trans (show _ = some (.int .i64 o1) from rfl)
      have t4 := (cell_of_heap hk 4).trans (show _ = some (.int .i64 o1) from rfl)
      have t5 := (cell_of_heap hk 5).trans (show _ = some (.int .i64 0) from rfl)
      have ts := (Array.getElem?_eq_some_iff.1 hk).1
      have tf := frozen_of_heap hk
      clear hk
      have HQ3 := hid (put_bad (m := 1000) (L := L2) (t := ⟨4, ⟨#[]⟩, 0, ((L2.length : Int) + 1), o1, 0⟩) (by simp [T.may, T.only, many, T.parts] <;> (intros; omega)))
      go_wp2_with fail
      refine (len_at H.out).mono ?_
      rintro e w6 ⟨rfl, rfl⟩
      go_wp2_with fail
      have H9 := hid (((H.out.front 1 rfl).set 3 (.int .i64 ((L2.length : Int) + 1))).front 1 rfl)
      clear t0 t1 t2 t3 t4 t5 ts tf H
      have H := H9
      clear H9
      refine (put_c 4 ⟨#[]⟩ 0 ((L2.length : Int) + 1) o1 0 HQ3 H.out).mono ?_
      rintro e w7 ⟨rfl, hd⟩
      clear H
      have H := hid hd
      clear hd h5
      have do1 : decide (1 ≤ o1) = true := by simpa using hL1
      go_wp2_with fail
      refine (fixed2_calls H.out).mono ?_
      rintro e w8 ⟨rfl, hd⟩
      clear H
      have H := hid hd
      clear hd
      go_wp2_with fail
      go_ret
      exact ⟨rfl, H.out.below⟩
    · skip
      have HFF := hid hF
      have h5 : x2.tmod 5 = 3 := by rw [Int.tmod_eq_emod_of_nonneg b2]; exact hF
      clear hF
      have hk := Hd.nthk 1 H.out rfl
      have t0 := (cell_of_heap hk 0).trans (show _ = some (.int .i64 4) from rfl)
      have t1 := (cell_of_heap hk 1).trans (show _ = some (.string ⟨#[]⟩) from rfl)
      have t2 := (cell_of_heap hk 2).trans (show _ = some (.int .u64 0) from rfl)
      have t3 := (cell_of_heap hk 3).trans (show _ = some (.int .i64 o1) from rfl)
      have t4 := (cell_of_heap hk 4).trans (show _ = some (.int .i64 o1) from rfl)
      have t5 := (cell_of_heap hk 5).trans (show _ = some (.int .i64 0) from rfl)
      have ts := (Array.getElem?_eq_some_iff.1 hk).1
      have tf := frozen_of_heap hk
      clear hk
      have HQ3 := hid (put_bad (m := 1000) (L := L2) (t := ⟨4, ⟨#[]⟩, 0, o1, ((L2.length : Int) + 5), 0⟩) (by simp [T.may, T.only, many, T.parts] <;> (intros; omega)))
      go_wp2_with fail
      refine (len_at H.out).mono ?_
      rintro e w6 ⟨rfl, rfl⟩
      go_wp2_with fail
      have H9 := hid (((H.out.front 1 rfl).set 4 (.int .i64 ((L2.length : Int) + 5))).front 1 rfl)
      clear t0 t1 t2 t3 t4 t5 ts tf H
      have H := H9
      clear H9
      refine (put_c 4 ⟨#[]⟩ 0 o1 ((L2.length : Int) + 5) 0 HQ3 H.out).mono ?_
      rintro e w7 ⟨rfl, hd⟩
      clear H
      have H := hid hd
      clear hd h5
      have do1 : decide (1 ≤ o1) = true := by simpa using hL1
      go_wp2_with fail
      refine (fixed2_calls H.out).mono ?_
      rintro e w8 ⟨rfl, hd⟩
      clear H
      have H := hid hd
      clear hd
      go_wp2_with fail
      go_ret
      exact ⟨rfl, H.out.below⟩
    · skip
      have HFF := hid hF
      have h5 : x2.tmod 5 = 4 := by rw [Int.tmod_eq_emod_of_nonneg b2]; exact hF
      clear hF
      have hk := Hd.nthk 1 H.out rfl
      have t0 := (cell_of_heap hk 0).trans (show _ = some (.int .i64 4) from rfl)
      have t1 := (cell_of_heap hk 1).trans (show _ = some (.string ⟨#[]⟩) from rfl)
      have t2 := (cell_of_heap hk 2).trans (show _ = some (.int .u64 0) from rfl)
      have t3 := (cell_of_heap hk 3).trans (show _ = some (.int .i64 o1) from rfl)
      have t4 := (cell_of_heap hk 4).trans (show _ = some (.int .i64 o1) from rfl)
      have t5 := (cell_of_heap hk 5).trans (show _ = some (.int .i64 0) from rfl)
      have ts := (Array.getElem?_eq_some_iff.1 hk).1
      have tf := frozen_of_heap hk
      clear hk
      have HQ3 := hid (put_bad (m := 1000) (L := L2) (t := ⟨4, ⟨#[]⟩, 0, o1, o1, (-1)⟩) (by simp [T.may, T.only, many, T.parts]))
      go_wp2_with fail
      have H9 := hid (((H.out.front 1 rfl).set 5 (.int .i64 (-1))).front 1 rfl)
      clear t0 t1 t2 t3 t4 t5 ts tf H
      have H := H9
      clear H9
      refine (put_c 4 ⟨#[]⟩ 0 o1 o1 (-1) HQ3 H.out).mono ?_
      rintro e w7 ⟨rfl, hd⟩
      clear H
      have H := hid hd
      clear hd h5
      have do1 : decide (1 ≤ o1) = true := by simpa using hL1
      go_wp2_with fail
      refine (fixed2_calls H.out).mono ?_
      rintro e w8 ⟨rfl, hd⟩
      clear H
      have H := hid hd
      clear hd
      go_wp2_with fail
      go_ret
      exact ⟨rfl, H.out.below⟩
  · skip
    refine (parts_calls 5 ⟨#[]⟩ 0 0 0 0 _).mono ?_
    rintro e w3 ⟨pa, rfl, hnew⟩
    have H9 := hid (H.out.still hnew.below)
    clear H hnew
    have H := H9
    clear H9
    rw [show many 5 = 1 from rfl]
    go_wp2_with fail
    refine (len_at H.out).mono ?_
    rintro e w4 ⟨rfl, rfl⟩
    obtain ⟨o1, ho1⟩ : ∃ o1 : Int, (L1.length : Int) = o1 := ⟨_, rfl⟩
    rw [ho1] at hL1 hL11 ⊢
    obtain ⟨r2, L2, hq2, hat2, he2, hg2, hl2⟩ := put_ok (m := 1000) (t := ⟨5, ⟨#[]⟩, 0, o1, 0, 0⟩) HG1.out (by have h0 : (⟨#[]⟩ : ByteArray).size = 0 := rfl; simp [T.may, T.only, many, T.parts, h0] <;> omega) (by omega)
    have HQ2 := hid hq2
    have HG2 := hid hg2
    have hl20 : (L2.length : Int) ≤ 12 := by omega
    have hl21 : 0 ≤ (L2.length : Int) := by omega
    have HL12 := hid (show o1 ≤ (L2.length : Int) by have := hat2.lo; have := he2.len; omega)
    clear hq2 hg2 hat2 hl2 he2
    have HO1 := hid ho1
    clear ho1
    have hk := Hd.nthk 1 H.out rfl
    have t0 := (cell_of_heap hk 0).trans (show _ = some (.int .i64 5) from rfl)
    have t1 := (cell_of_heap hk 1).trans (show _ = some (.string ⟨#[]⟩) from rfl)
    have t2 := (cell_of_heap hk 2).trans (show _ = some (.int .u64 0) from rfl)
    have t3 := (cell_of_heap hk 3).trans (show _ = some (.int .i64 0) from rfl)
    have t4 := (cell_of_heap hk 4).trans (show _ = some (.int .i64 0) from rfl)
    have t5 := (cell_of_heap hk 5).trans (show _ = some (.int .i64 0) from rfl)
    have ts := (Array.getElem?_eq_some_iff.1 hk).1
    have tf := frozen_of_heap hk
    clear hk
    go_wp2_with fail
    have H9 := hid (((H.out.front 1 rfl).set 3 (.int .i64 o1)).front 1 rfl)
    clear t0 t1 t2 t3 t4 t5 ts tf H
    have H := H9
    clear H9
    refine (put_c 5 ⟨#[]⟩ 0 o1 0 0 HQ2 H.out).mono ?_
    rintro e w5 ⟨rfl, hd⟩
    clear H
    have H := hid hd
    clear hd
    rcases hF1 with rfl | rfl | rfl | rfl | rfl
    · skip
      have HFF := hid hF
      have h5 : x2.tmod 5 = 0 := by rw [Int.tmod_eq_emod_of_nonneg b2]; exact hF
      clear hF
      have hk := Hd.nthk 1 H.out rfl
      have t0 := (cell_of_heap hk 0).trans (show _ = some (.int .i64 5) from rfl)
      have t1 := (cell_of_heap hk 1).trans (show _ = some (.string ⟨#[]⟩) from rfl)
      have t2 := (cell_of_heap hk 2).trans (show _ = some (.int .u64 0) from rfl)
      have t3 := (cell_of_heap hk 3).trans (show _ = some (.int .i64 o1) from rfl)
      have t4 := (cell_of_heap hk 4).trans (show _ = some (.int .i64 0) from rfl)
      have t5 := (cell_of_heap hk 5).trans (show _ = some (.int .i64 0) from rfl)
      have ts := (Array.getElem?_eq_some_iff.1 hk).1
      have tf := frozen_of_heap hk
      clear hk
      have HQ3 := hid (put_bad (m := 1000) (L := L2) (t := ⟨5, ⟨#[120]⟩, 0, o1, 0, 0⟩) (by simp [T.may, T.only, many, T.parts]))
      go_wp2_with fail
      have H9 := hid (((H.out.front 1 rfl).set 1 (.string ⟨#[120]⟩)).front 1 rfl)
      clear t0 t1 t2 t3 t4 t5 ts tf H
      have H := H9
      clear H9
      refine (put_c 5 ⟨#[120]⟩ 0 o1 0 0 HQ3 H.out).mono ?_
      rintro e w7 ⟨rfl, hd⟩
      clear H
      have H := hid hd
      clear hd h5
      have do1 : decide (1 ≤ o1) = true := by simpa using hL1
      go_wp2_with fail
      refine (fixed2_calls H.out).mono ?_
      rintro e w8 ⟨rfl, hd⟩
      clear H
      have H := hid hd
      clear hd
      go_wp2_with fail
      go_ret
      exact ⟨rfl, H.out.below⟩
    · skip
      have HFF := hid hF
      have h5 : x2.tmod 5 = 1 := by rw [Int.tmod_eq_emod_of_nonneg b2]; exact hF
      clear hF
      have hk := Hd.nthk 1 H.out rfl
      have t0 := (cell_of_heap hk 0).trans (show _ = some (.int .i64 5) from rfl)
      have t1 := (cell_of_heap hk 1).trans (show _ = some (.string ⟨#[]⟩) from rfl)
      have t2 := (cell_of_heap hk 2).trans (show _ = some (.int .u64 0) from rfl)
      have t3 := (cell_of_heap hk 3).trans (show _ = some (.int .i64 o1) from rfl)
      have t4 := (cell_of_heap hk 4).trans (show _ = some (.int .i64 0) from rfl)
      have t5 := (cell_of_heap hk 5).trans (show _ = some (.int .i64 0) from rfl)
      have ts := (Array.getElem?_eq_some_iff.1 hk).1
      have tf := frozen_of_heap hk
      clear hk
      have HQ3 := hid (put_bad (m := 1000) (L := L2) (t := ⟨5, ⟨#[]⟩, 9, o1, 0, 0⟩) (by simp [T.may, T.only, many, T.parts]))
      go_wp2_with fail
      have H9 := hid (((H.out.front 1 rfl).set 2 (.int .u64 9)).front 1 rfl)
      clear t0 t1 t2 t3 t4 t5 ts tf H
      have H := H9
      clear H9
      refine (put_c 5 ⟨#[]⟩ 9 o1 0 0 HQ3 H.out).mono ?_
      rintro e w7 ⟨rfl, hd⟩
      clear H
      have H := hid hd
      clear hd h5
      have do1 : decide (1 ≤ o1) = true := by simpa using hL1
      go_wp2_with fail
      refine (fixed2_calls H.out).mono ?_
      rintro e w8 ⟨rfl, hd⟩
      clear H
      have H := hid hd
      clear hd
      go_wp2_with fail
      go_ret
      exact ⟨rfl, H.out.below⟩
    · skip
      have HFF := hid hF
      have h5 : x2.tmod 5 = 2 := by rw [Int.tmod_eq_emod_of_nonneg b2]; exact hF
      clear hF
      have hk := Hd.nthk 1 H.out rfl
      have t0 := (cell_of_heap hk 0).trans (show _ = some (.int .i64 5) from rfl)
      have t1 := (cell_of_heap hk 1).trans (show _ = some (.string ⟨#[]⟩) from rfl)
      have t2 := (cell_of_heap hk 2).trans (show _ = some (.int .u64 0) from rfl)
      have t3 := (cell_of_heap hk 3).trans (show _ = some (.int .i64 o1) from rfl)
      have t4 := (cell_of_heap hk 4).trans (show _ = some (.int .i64 0) from rfl)
      have t5 := (cell_of_heap hk 5).trans (show _ = some (.int .i64 0) from rfl)
      have ts := (Array.getElem?_eq_some_iff.1 hk).1
      have tf := frozen_of_heap hk
      clear hk
      have HQ3 := hid (put_bad (m := 1000) (L := L2) (t := ⟨5, ⟨#[]⟩, 0, ((L2.length : Int) + 1), 0, 0⟩) (by simp [T.may, T.only, many, T.parts] <;> (intros; omega)))
      go_wp2_with fail
      refine (len_at H.out).mono ?_
      rintro e w6 ⟨rfl, rfl⟩
      go_wp2_with fail
      have H9 := hid (((H.out.front 1 rfl).set 3 (.int .i64 ((L2.length : Int) + 1))).front 1 rfl)
      clear t0 t1 t2 t3 t4 t5 ts tf H
      have H := H9
      clear H9
      refine (put_c 5 ⟨#[]⟩ 0 ((L2.length : Int) + 1) 0 0 HQ3 H.out).mono ?_
      rintro e w7 ⟨rfl, hd⟩
      clear H
      have H := hid hd
      clear hd h5
      have do1 : decide (1 ≤ o1) = true := by simpa using hL1
      go_wp2_with fail
      refine (fixed2_calls H.out).mono ?_
      rintro e w8 ⟨rfl, hd⟩
      clear H
      have H := hid hd
      clear hd
      go_wp2_with fail
      go_ret
      exact ⟨rfl, H.out.below⟩
    · skip
      have HFF := hid hF
      have h5 : x2.tmod 5 = 3 := by rw [Int.tmod_eq_emod_of_nonneg b2]; exact hF
      clear hF
      have hk := Hd.nthk 1 H.out rfl
      have t0 := (cell_of_heap hk 0).trans (show _ = some (.int .i64 5) from rfl)
      have t1 := (cell_of_heap hk 1).trans (show _ = some (.string ⟨#[]⟩) from rfl)
      have t2 := (cell_of_heap hk 2).trans (show _ = some (.int .u64 0) from rfl)
      have t3 := (cell_of_heap hk 3).trans (show _ = some (.int .i64 o1) from rfl)
      have t4 := (cell_of_heap hk 4).trans (show _ = some (.int .i64 0) from rfl)
      have t5 := (cell_of_heap hk 5).trans (show _ = some (.int .i64 0) from rfl)
      have ts := (Array.getElem?_eq_some_iff.1 hk).1
      have tf := frozen_of_heap hk
      clear hk
      have HQ3 := hid (put_bad (m := 1000) (L := L2) (t := ⟨5, ⟨#[]⟩, 0, o1, ((L2.length : Int) + 5), 0⟩) (by simp [T.may, T.only, many, T.parts] <;> (intros; omega)))
      go_wp2_with fail
      refine (len_at H.out).mono ?_
      rintro e w6 ⟨rfl, rfl⟩
      go_wp2_with fail
      have H9 := hid (((H.out.front 1 rfl).set 4 (.int .i64 ((L2.length : Int) + 5))).front 1 rfl)
      clear t0 t1 t2 t3 t4 t5 ts tf H
      have H := H9
      clear H9
      refine (put_c 5 ⟨#[]⟩ 0 o1 ((L2.length : Int) + 5) 0 HQ3 H.out).mono ?_
      rintro e w7 ⟨rfl, hd⟩
      clear H
      have H := hid hd
      clear hd h5
      have do1 : decide (1 ≤ o1) = true := by simpa using hL1
      go_wp2_with fail
      refine (fixed2_calls H.out).mono ?_
      rintro e w8 ⟨rfl, hd⟩
      clear H
      have H := hid hd
      clear hd
      go_wp2_with fail
      go_ret
      exact ⟨rfl, H.out.below⟩
    · skip
      have HFF := hid hF
      have h5 : x2.tmod 5 = 4 := by rw [Int.tmod_eq_emod_of_nonneg b2]; exact hF
      clear hF
      have hk := Hd.nthk 1 H.out rfl
      have t0 := (cell_of_heap hk 0).trans (show _ = some (.int .i64 5) from rfl)
      have t1 := (cell_of_heap hk 1).trans (show _ = some (.string ⟨#[]⟩) from rfl)
      have t2 := (cell_of_heap hk 2).trans (show _ = some (.int .u64 0) from rfl)
      have t3 := (cell_of_heap hk 3).trans (show _ = some (.int .i64 o1) from rfl)
      have t4 := (cell_of_heap hk 4).trans (show _ = some (.int .i64 0) from rfl)
      have t5 := (cell_of_heap hk 5).trans (show _ = some (.int .i64 0) from rfl)
      have ts := (Array.getElem?_eq_some_iff.1 hk).1
      have tf := frozen_of_heap hk
      clear hk
      have HQ3 := hid (put_bad (m := 1000) (L := L2) (t := ⟨5, ⟨#[]⟩, 0, o1, 0, (-1)⟩) (by simp [T.may, T.only, many, T.parts]))
      go_wp2_with fail
      have H9 := hid (((H.out.front 1 rfl).set 5 (.int .i64 (-1))).front 1 rfl)
      clear t0 t1 t2 t3 t4 t5 ts tf H
      have H := H9
      clear H9
      refine (put_c 5 ⟨#[]⟩ 0 o1 0 (-1) HQ3 H.out).mono ?_
      rintro e w7 ⟨rfl, hd⟩
      clear H
      have H := hid hd
      clear hd h5
      have do1 : decide (1 ≤ o1) = true := by simpa using hL1
      go_wp2_with fail
      refine (fixed2_calls H.out).mono ?_
      rintro e w8 ⟨rfl, hd⟩
      clear H
      have H := hid hd
      clear hd
      go_wp2_with fail
      go_ret
      exact ⟨rfl, H.out.below⟩
  · skip
    refine (parts_calls 6 ⟨#[]⟩ 0 0 0 0 _).mono ?_
    rintro e w3 ⟨pa, rfl, hnew⟩
    have H9 := hid (H.out.still hnew.below)
    clear H hnew
    have H := H9
    clear H9
    rw [show many 6 = 2 from rfl]
    go_wp2_with fail
    refine (len_at H.out).mono ?_
    rintro e w4 ⟨rfl, rfl⟩
    obtain ⟨o1, ho1⟩ : ∃ o1 : Int, (L1.length : Int) = o1 := ⟨_, rfl⟩
    rw [ho1] at hL1 hL11 ⊢
    obtain ⟨r2, L2, hq2, hat2, he2, hg2, hl2⟩ := put_ok (m := 1000) (t := ⟨6, ⟨#[]⟩, 0, o1, o1, 0⟩) HG1.out (by have h0 : (⟨#[]⟩ : ByteArray).size = 0 := rfl; simp [T.may, T.only, many, T.parts, h0] <;> omega) (by omega)
    have HQ2 := hid hq2
    have HG2 := hid hg2
    have hl20 : (L2.length : Int) ≤ 12 := by omega
    have hl21 : 0 ≤ (L2.length : Int) := by omega
    have HL12 := hid (show o1 ≤ (L2.length : Int) by have := hat2.lo; have := he2.len; omega)
    clear hq2 hg2 hat2 hl2 he2
    have HO1 := hid ho1
    clear ho1
    have hk := Hd.nthk 1 H.out rfl
    have t0 := (cell_of_heap hk 0).trans (show _ = some (.int .i64 6) from rfl)
    have t1 := (cell_of_heap hk 1).trans (show _ = some (.string ⟨#[]⟩) from rfl)
    have t2 := (cell_of_heap hk 2).trans (show _ = some (.int .u64 0) from rfl)
    have t3 := (cell_of_heap hk 3).trans (show _ = some (.int .i64 0) from rfl)
    have t4 := (cell_of_heap hk 4).trans (show _ = some (.int .i64 0) from rfl)
    have t5 := (cell_of_heap hk 5).trans (show _ = some (.int .i64 0) from rfl)
    have ts := (Array.getElem?_eq_some_iff.1 hk).1
    have tf := frozen_of_heap hk
    clear hk
    go_wp2_with fail
    have H9 := hid ((((H.out.front 1 rfl).set 3 (.int .i64 o1)).set 4 (.int .i64 o1)).front 1 rfl)
    clear t0 t1 t2 t3 t4 t5 ts tf H
    have H := H9
    clear H9
    refine (put_c 6 ⟨#[]⟩ 0 o1 o1 0 HQ2 H.out).mono ?_
    rintro e w5 ⟨rfl, hd⟩
    clear H
    have H := hid hd
    clear hd
    rcases hF1 with rfl | rfl | rfl | rfl | rfl
    · skip
      have HFF := hid hF
      have h5 : x2.tmod 5 = 0 := by rw [Int.tmod_eq_emod_of_nonneg b2]; exact hF
      clear hF
      have hk := Hd.nthk 1 H.out rfl
      have t0 := (cell_of_heap hk 0).trans (show _ = some (.int .i64 6) from rfl)
      have t1 := (cell_of_heap hk 1).trans (show _ = some (.string ⟨#[]⟩) from rfl)
      have t2 := (cell_of_heap hk 2).trans (show _ = some (.int .u64 0) from rfl)
      have t3 := (cell_of_heap hk 3).trans (show _ = some (.int .i64 o1) from rfl)
      have t4 := (cell_of_heap hk 4).trans (show _ = some (.int .i64 o1) from rfl)
      have t5 := (cell_of_heap hk 5).trans (show _ = some (.int .i64 0) from rfl)
      have ts := (Array.getElem?_eq_some_iff.1 hk).1
      have tf := frozen_of_heap hk
      clear hk
      have HQ3 := hid (put_bad (m := 1000) (L := L2) (t := ⟨6, ⟨#[120]⟩, 0, o1, o1, 0⟩) (by simp [T.may, T.only, many, T.parts]))
      go_wp2_with fail
      have H9 := hid (((H.out.front 1 rfl).set 1 (.string ⟨#[120]⟩)).front 1 rfl)
      clear t0 t1 t2 t3 t4 t5 ts tf H
      have H := H9
      clear H9
      refine (put_c 6 ⟨#[120]⟩ 0 o1 o1 0 HQ3 H.out).mono ?_
      rintro e w7 ⟨rfl, hd⟩
      clear H
      have H := hid hd
      clear hd h5
      have do1 : decide (1 ≤ o1) = true := by simpa using hL1
      go_wp2_with fail
      refine (fixed2_calls H.out).mono ?_
      rintro e w8 ⟨rfl, hd⟩
      clear H
      have H := hid hd
      clear hd
      go_wp2_with fail
      go_ret
      exact ⟨rfl, H.out.below⟩
    · skip
      have HFF := hid hF
      have h5 : x2.tmod 5 = 1 := by rw [Int.tmod_eq_emod_of_nonneg b2]; exact hF
      clear hF
      have hk := Hd.nthk 1 H.out rfl
      have t0 := (cell_of_heap hk 0).trans (show _ = some (.int .i64 6) from rfl)
      have t1 := (cell_of_heap hk 1).trans (show _ = some (.string ⟨#[]⟩) from rfl)
      have t2 := (cell_of_heap hk 2).trans (show _ = some (.int .u64 0) from rfl)
      have t3 := (cell_of_heap hk 3).trans (show _ = some (.int .i64 o1) from rfl)
      have t4 := (cell_of_heap hk 4).trans (show _ = some (.int .i64 o1) from rfl)
      have t5 := (cell_of_heap hk 5).trans (show _ = some (.int .i64 0) from rfl)
      have ts := (Array.getElem?_eq_some_iff.1 hk).1
      have tf := frozen_of_heap hk
      clear hk
      have HQ3 := hid (put_bad (m := 1000) (L := L2) (t := ⟨6, ⟨#[]⟩, 9, o1, o1, 0⟩) (by simp [T.may, T.only, many, T.parts]))
      go_wp2_with fail
      have H9 := hid (((H.out.front 1 rfl).set 2 (.int .u64 9)).front 1 rfl)
      clear t0 t1 t2 t3 t4 t5 ts tf H
      have H := H9
      clear H9
      refine (put_c 6 ⟨#[]⟩ 9 o1 o1 0 HQ3 H.out).mono ?_
      rintro e w7 ⟨rfl, hd⟩
      clear H
      have H := hid hd
      clear hd h5
      have do1 : decide (1 ≤ o1) = true := by simpa using hL1
      go_wp2_with fail
      refine (fixed2_calls H.out).mono ?_
      rintro e w8 ⟨rfl, hd⟩
      clear H
      have H := hid hd
      clear hd
      go_wp2_with fail
      go_ret
      exact ⟨rfl, H.out.below⟩
    · skip
      have HFF := hid hF
      have h5 : x2.tmod 5 = 2 := by rw [Int.tmod_eq_emod_of_nonneg b2]; exact hF
      clear hF
      have hk := Hd.nthk 1 H.out rfl
      have t0 := (cell_of_heap hk 0).trans (show _ = some (.int .i64 6) from rfl)
      have t1 := (cell_of_heap hk 1).trans (show _ = some (.string ⟨#[]⟩) from rfl)
      have t2 := (cell_of_heap hk 2).trans (show _ = some (.int .u64 0) from rfl)
      have t3 := (cell_of_heap hk 3).trans (show _ = some (.int .i64 o1) from rfl)
      have t4 := (cell_of_heap hk 4).trans (show _ = some (.int .i64 o1) from rfl)
      have t5 := (cell_of_heap hk 5).trans (show _ = some (.int .i64 0) from rfl)
      have ts := (Array.getElem?_eq_some_iff.1 hk).1
      have tf := frozen_of_heap hk
      clear hk
      have HQ3 := hid (put_bad (m := 1000) (L := L2) (t := ⟨6, ⟨#[]⟩, 0, ((L2.length : Int) + 1), o1, 0⟩) (by simp [T.may, T.only, many, T.parts] <;> (intros; omega)))
      go_wp2_with fail
      refine (len_at H.out).mono ?_
      rintro e w6 ⟨rfl, rfl⟩
      go_wp2_with fail
      have H9 := hid (((H.out.front 1 rfl).set 3 (.int .i64 ((L2.length : Int) + 1))).front 1 rfl)
      clear t0 t1 t2 t3 t4 t5 ts tf H
      have H := H9
      clear H9
      refine (put_c 6 ⟨#[]⟩ 0 ((L2.length : Int) + 1) o1 0 HQ3 H.out).mono ?_
      rintro e w7 ⟨rfl, hd⟩
      clear H
      have H := hid hd
      clear hd h5
      have do1 : decide (1 ≤ o1) = true := by simpa using hL1
      go_wp2_with fail
      refine (fixed2_calls H.out).mono ?_
      rintro e w8 ⟨rfl, hd⟩
      clear H
      have H := hid hd
      clear hd
      go_wp2_with fail
      go_ret
      exact ⟨rfl, H.out.below⟩
    · skip
      have HFF := hid hF
      have h5 : x2.tmod 5 = 3 := by rw [Int.tmod_eq_emod_of_nonneg b2]; exact hF
      clear hF
      have hk := Hd.nthk 1 H.out rfl
      have t0 := (cell_of_heap hk 0).trans (show _ = some (.int .i64 6) from rfl)
      have t1 := (cell_of_heap hk 1).trans (show _ = some (.string ⟨#[]⟩) from rfl)
      have t2 := (cell_of_heap hk 2).trans (show _ = some (.int .u64 0) from rfl)
      have t3 := (cell_of_heap hk 3).trans (show _ = some (.int .i64 o1) from rfl)
      have t4 := (cell_of_heap hk 4).trans (show _ = some (.int .i64 o1) from rfl)
      have t5 := (cell_of_heap hk 5).trans (show _ = some (.int .i64 0) from rfl)
      have ts := (Array.getElem?_eq_some_iff.1 hk).1
      have tf := frozen_of_heap hk
      clear hk
      have HQ3 := hid (put_bad (m := 1000) (L := L2) (t := ⟨6, ⟨#[]⟩, 0, o1, ((L2.length : Int) + 5), 0⟩) (by simp [T.may, T.only, many, T.parts] <;> (intros; omega)))
      go_wp2_with fail
      refine (len_at H.out).mono ?_
      rintro e w6 ⟨rfl, rfl⟩
      go_wp2_with fail
      have H9 := hid (((H.out.front 1 rfl).set 4 (.int .i64 ((L2.length : Int) + 5))).front 1 rfl)
      clear t0 t1 t2 t3 t4 t5 ts tf H
      have H := H9
      clear H9
      refine (put_c 6 ⟨#[]⟩ 0 o1 ((L2.length : Int) + 5) 0 HQ3 H.out).mono ?_
      rintro e w7 ⟨rfl, hd⟩
      clear H
      have H := hid hd
      clear hd h5
      have do1 : decide (1 ≤ o1) = true := by simpa using hL1
      go_wp2_with fail
      refine (fixed2_calls H.out).mono ?_
      rintro e w8 ⟨rfl, hd⟩
      clear H
      have H := hid hd
      clear hd
      go_wp2_with fail
      go_ret
      exact ⟨rfl, H.out.below⟩
    · skip
      have HFF := hid hF
      have h5 : x2.tmod 5 = 4 := by rw [Int.tmod_eq_emod_of_nonneg b2]; exact hF
      clear hF
      have hk := Hd.nthk 1 H.out rfl
      have t0 := (cell_of_heap hk 0).trans (show _ = some (.int .i64 6) from rfl)
      have t1 := (cell_of_heap hk 1).trans (show _ = some (.string ⟨#[]⟩) from rfl)
      have t2 := (cell_of_heap hk 2).trans (show _ = some (.int .u64 0) from rfl)
      have t3 := (cell_of_heap hk 3).trans (show _ = some (.int .i64 o1) from rfl)
      have t4 := (cell_of_heap hk 4).trans (show _ = some (.int .i64 o1) from rfl)
      have t5 := (cell_of_heap hk 5).trans (show _ = some (.int .i64 0) from rfl)
      have ts := (Array.getElem?_eq_some_iff.1 hk).1
      have tf := frozen_of_heap hk
      clear hk
      have HQ3 := hid (put_bad (m := 1000) (L := L2) (t := ⟨6, ⟨#[]⟩, 0, o1, o1, (-1)⟩) (by simp [T.may, T.only, many, T.parts]))
      go_wp2_with fail
      have H9 := hid (((H.out.front 1 rfl).set 5 (.int .i64 (-1))).front 1 rfl)
      clear t0 t1 t2 t3 t4 t5 ts tf H
      have H := H9
      clear H9
      refine (put_c 6 ⟨#[]⟩ 0 o1 o1 (-1) HQ3 H.out).mono ?_
      rintro e w7 ⟨rfl, hd⟩
      clear H
      have H := hid hd
      clear hd h5
      have do1 : decide (1 ≤ o1) = true := by simpa using hL1
      go_wp2_with fail
      refine (fixed2_calls H.out).mono ?_
      rintro e w8 ⟨rfl, hd⟩
      clear H
      have H := hid hd
      clear hd
      go_wp2_with fail
      go_ret
      exact ⟨rfl, H.out.below⟩
  · skip
    refine (parts_calls 7 ⟨#[]⟩ 0 0 0 0 _).mono ?_
    rintro e w3 ⟨pa, rfl, hnew⟩
    have H9 := hid (H.out.still hnew.below)
    clear H hnew
    have H := H9
    clear H9
    rw [show many 7 = 2 from rfl]
    go_wp2_with fail
    refine (len_at H.out).mono ?_
    rintro e w4 ⟨rfl, rfl⟩
    obtain ⟨o1, ho1⟩ : ∃ o1 : Int, (L1.length : Int) = o1 := ⟨_, rfl⟩
    rw [ho1] at hL1 hL11 ⊢
    obtain ⟨r2, L2, hq2, hat2, he2, hg2, hl2⟩ := put_ok (m := 1000) (t := ⟨7, ⟨#[]⟩, 0, o1, o1, 0⟩) HG1.out (by have h0 : (⟨#[]⟩ : ByteArray).size = 0 := rfl; simp [T.may, T.only, many, T.parts, h0] <;> omega) (by omega)
    have HQ2 := hid hq2
    have HG2 := hid hg2
    have hl20 : (L2.length : Int) ≤ 12 := by omega
    have hl21 : 0 ≤ (L2.length : Int) := by omega
    have HL12 := hid (show o1 ≤ (L2.length : Int) by have := hat2.lo; have := he2.len; omega)
    clear hq2 hg2 hat2 hl2 he2
    have HO1 := hid ho1
    clear ho1
    have hk := Hd.nthk 1 H.out rfl
    have t0 := (cell_of_heap hk 0).trans (show _ = some (.int .i64 7) from rfl)
    have t1 := (cell_of_heap hk 1).trans (show _ = some (.string ⟨#[]⟩) from rfl)
    have t2 := (cell_of_heap hk 2).trans (show _ = some (.int .u64 0) from rfl)
    have t3 := (cell_of_heap hk 3).trans (show _ = some (.int .i64 0) from rfl)
    have t4 := (cell_of_heap hk 4).trans (show _ = some (.int .i64 0) from rfl)
    have t5 := (cell_of_heap hk 5).trans (show _ = some (.int .i64 0) from rfl)
    have ts := (Array.getElem?_eq_some_iff.1 hk).1
    have tf := frozen_of_heap hk
    clear hk
    go_wp2_with fail
    have H9 := hid ((((H.out.front 1 rfl).set 3 (.int .i64 o1)).set 4 (.int .i64 o1)).front 1 rfl)
    clear t0 t1 t2 t3 t4 t5 ts tf H
    have H := H9
    clear H9
    refine (put_c 7 ⟨#[]⟩ 0 o1 o1 0 HQ2 H.out).mono ?_
    rintro e w5 ⟨rfl, hd⟩
    clear H
    have H := hid hd
    clear hd
    rcases hF1 with rfl | rfl | rfl | rfl | rfl
    · skip
      have HFF := hid hF
      have h5 : x2.tmod 5 = 0 := by rw [Int.tmod_eq_emod_of_nonneg b2]; exact hF
      clear hF
      have hk := Hd.nthk 1 H.out rfl
      have t0 := (cell_of_heap hk 0).trans (show _ = some (.int .i64 7) from rfl)
      have t1 := (cell_of_heap hk 1).trans (show _ = some (.string ⟨#[]⟩) from rfl)
      have t2 := (cell_of_heap hk 2).trans (show _ = some (.int .u64 0) from rfl)
      have t3 := (cell_of_heap hk 3).trans (show _ = some (.int .i64 o1) from rfl)
      have t4 := (cell_of_heap hk 4).trans (show _ = some (.int .i64 o1) from rfl)
      have t5 := (cell_of_heap hk 5).trans (show _ = some (.int .i64 0) from rfl)
      have ts := (Array.getElem?_eq_some_iff.1 hk).1
      have tf := frozen_of_heap hk
      clear hk
      have HQ3 := hid (put_bad (m := 1000) (L := L2) (t := ⟨7, ⟨#[120]⟩, 0, o1, o1, 0⟩) (by simp [T.may, T.only, many, T.parts]))
      go_wp2_with fail
      have H9 := hid (((H.out.front 1 rfl).set 1 (.string ⟨#[120]⟩)).front 1 rfl)
      clear t0 t1 t2 t3 t4 t5 ts tf H
      have H := H9
      clear H9
      refine (put_c 7 ⟨#[120]⟩ 0 o1 o1 0 HQ3 H.out).mono ?_
      rintro e w7 ⟨rfl, hd⟩
      clear H
      have H := hid hd
      clear hd h5
      have do1 : decide (1 ≤ o1) = true := by simpa using hL1
      go_wp2_with fail
      refine (fixed2_calls H.out).mono ?_
      rintro e w8 ⟨rfl, hd⟩
      clear H
      have H := hid hd
      clear hd
      go_wp2_with fail
      go_ret
      exact ⟨rfl, H.out.below⟩
    · skip
      have HFF := hid hF
      have h5 : x2.tmod 5 = 1 := by rw [Int.tmod_eq_emod_of_nonneg b2]; exact hF
      clear hF
      have hk := Hd.nthk 1 H.out rfl
      have t0 := (cell_of_heap hk 0).trans (show _ = some (.int .i64 7) from rfl)
      have t1 := (cell_of_heap hk 1).trans (show _ = some (.string ⟨#[]⟩) from rfl)
      have t2 := (cell_of_heap hk 2).trans (show _ = some (.int .u64 0) from rfl)
      have t3 := (cell_of_heap hk 3).trans (show _ = some (.int .i64 o1) from rfl)
      have t4 := (cell_of_heap hk 4).trans (show _ = some (.int .i64 o1) from rfl)
      have t5 := (cell_of_heap hk 5).trans (show _ = some (.int .i64 0) from rfl)
      have ts := (Array.getElem?_eq_some_iff.1 hk).1
      have tf := frozen_of_heap hk
      clear hk
      have HQ3 := hid (put_bad (m := 1000) (L := L2) (t := ⟨7, ⟨#[]⟩, 9, o1, o1, 0⟩) (by simp [T.may, T.only, many, T.parts]))
      go_wp2_with fail
      have H9 := hid (((H.out.front 1 rfl).set 2 (.int .u64 9)).front 1 rfl)
      clear t0 t1 t2 t3 t4 t5 ts tf H
      have H := H9
      clear H9
      refine (put_c 7 ⟨#[]⟩ 9 o1 o1 0 HQ3 H.out).mono ?_
      rintro e w7 ⟨rfl, hd⟩
      clear H
      have H := hid hd
      clear hd h5
      have do1 : decide (1 ≤ o1) = true := by simpa using hL1
      go_wp2_with fail
      refine (fixed2_calls H.out).mono ?_
      rintro e w8 ⟨rfl, hd⟩
      clear H
      have H := hid hd
      clear hd
      go_wp2_with fail
      go_ret
      exact ⟨rfl, H.out.below⟩
    · skip
      have HFF := hid hF
      have h5 : x2.tmod 5 = 2 := by rw [Int.tmod_eq_emod_of_nonneg b2]; exact hF
      clear hF
      have hk := Hd.nthk 1 H.out rfl
      have t0 := (cell_of_heap hk 0).trans (show _ = some (.int .i64 7) from rfl)
      have t1 := (cell_of_heap hk 1).trans (show _ = some (.string ⟨#[]⟩) from rfl)
      have t2 := (cell_of_heap hk 2).trans (show _ = some (.int .u64 0) from rfl)
      have t3 := (cell_of_heap hk 3).trans (show _ = some (.int .i64 o1) from rfl)
      have t4 := (cell_of_heap hk 4).trans (show _ = some (.int .i64 o1) from rfl)
      have t5 := (cell_of_heap hk 5).trans (show _ = some (.int .i64 0) from rfl)
      have ts := (Array.getElem?_eq_some_iff.1 hk).1
      have tf := frozen_of_heap hk
      clear hk
      have HQ3 := hid (put_bad (m := 1000) (L := L2) (t := ⟨7, ⟨#[]⟩, 0, ((L2.length : Int) + 1), o1, 0⟩) (by simp [T.may, T.only, many, T.parts] <;> (intros; omega)))
      go_wp2_with fail
      refine (len_at H.out).mono ?_
      rintro e w6 ⟨rfl, rfl⟩
      go_wp2_with fail
      have H9 := hid (((H.out.front 1 rfl).set 3 (.int .i64 ((L2.length : Int) + 1))).front 1 rfl)
      clear t0 t1 t2 t3 t4 t5 ts tf H
      have H := H9
      clear H9
      refine (put_c 7 ⟨#[]⟩ 0 ((L2.length : Int) + 1) o1 0 HQ3 H.out).mono ?_
      rintro e w7 ⟨rfl, hd⟩
      clear H
      have H := hid hd
      clear hd h5
      have do1 : decide (1 ≤ o1) = true := by simpa using hL1
      go_wp2_with fail
      refine (fixed2_calls H.out).mono ?_
      rintro e w8 ⟨rfl, hd⟩
      clear H
      have H := hid hd
      clear hd
      go_wp2_with fail
      go_ret
      exact ⟨rfl, H.out.below⟩
    · skip
      have HFF := hid hF
      have h5 : x2.tmod 5 = 3 := by rw [Int.tmod_eq_emod_of_nonneg b2]; exact hF
      clear hF
      have hk := Hd.nthk 1 H.out rfl
      have t0 := (cell_of_heap hk 0).trans (show _ = some (.int .i64 7) from rfl)
      have t1 := (cell_of_heap hk 1).trans (show _ = some (.string ⟨#[]⟩) from rfl)
      have t2 := (cell_of_heap hk 2).trans (show _ = some (.int .u64 0) from rfl)
      have t3 := (cell_of_heap hk 3).trans (show _ = some (.int .i64 o1) from rfl)
      have t4 := (cell_of_heap hk 4).trans (show _ = some (.int .i64 o1) from rfl)
      have t5 := (cell_of_heap hk 5).trans (show _ = some (.int .i64 0) from rfl)
      have ts := (Array.getElem?_eq_some_iff.1 hk).1
      have tf := frozen_of_heap hk
      clear hk
      have HQ3 := hid (put_bad (m := 1000) (L := L2) (t := ⟨7, ⟨#[]⟩, 0, o1, ((L2.length : Int) + 5), 0⟩) (by simp [T.may, T.only, many, T.parts] <;> (intros; omega)))
      go_wp2_with fail
      refine (len_at H.out).mono ?_
      rintro e w6 ⟨rfl, rfl⟩
      go_wp2_with fail
      have H9 := hid (((H.out.front 1 rfl).set 4 (.int .i64 ((L2.length : Int) + 5))).front 1 rfl)
      clear t0 t1 t2 t3 t4 t5 ts tf H
      have H := H9
      clear H9
      refine (put_c 7 ⟨#[]⟩ 0 o1 ((L2.length : Int) + 5) 0 HQ3 H.out).mono ?_
      rintro e w7 ⟨rfl, hd⟩
      clear H
      have H := hid hd
      clear hd h5
      have do1 : decide (1 ≤ o1) = true := by simpa using hL1
      go_wp2_with fail
      refine (fixed2_calls H.out).mono ?_
      rintro e w8 ⟨rfl, hd⟩
      clear H
      have H := hid hd
      clear hd
      go_wp2_with fail
      go_ret
      exact ⟨rfl, H.out.below⟩
    · skip
      have HFF := hid hF
      have h5 : x2.tmod 5 = 4 := by rw [Int.tmod_eq_emod_of_nonneg b2]; exact hF
      clear hF
      have hk := Hd.nthk 1 H.out rfl
      have t0 := (cell_of_heap hk 0).trans (show _ = some (.int .i64 7) from rfl)
      have t1 := (cell_of_heap hk 1).trans (show _ = some (.string ⟨#[]⟩) from rfl)
      have t2 := (cell_of_heap hk 2).trans (show _ = some (.int .u64 0) from rfl)
      have t3 := (cell_of_heap hk 3).trans (show _ = some (.int .i64 o1) from rfl)
      have t4 := (cell_of_heap hk 4).trans (show _ = some (.int .i64 o1) from rfl)
      have t5 := (cell_of_heap hk 5).trans (show _ = some (.int .i64 0) from rfl)
      have ts := (Array.getElem?_eq_some_iff.1 hk).1
      have tf := frozen_of_heap hk
      clear hk
      have HQ3 := hid (put_bad (m := 1000) (L := L2) (t := ⟨7, ⟨#[]⟩, 0, o1, o1, (-1)⟩) (by simp [T.may, T.only, many, T.parts]))
      go_wp2_with fail
      have H9 := hid (((H.out.front 1 rfl).set 5 (.int .i64 (-1))).front 1 rfl)
      clear t0 t1 t2 t3 t4 t5 ts tf H
      have H := H9
      clear H9
      refine (put_c 7 ⟨#[]⟩ 0 o1 o1 (-1) HQ3 H.out).mono ?_
      rintro e w7 ⟨rfl, hd⟩
      clear H
      have H := hid hd
      clear hd h5
      have do1 : decide (1 ≤ o1) = true := by simpa using hL1
      go_wp2_with fail
      refine (fixed2_calls H.out).mono ?_
      rintro e w8 ⟨rfl, hd⟩
      clear H
      have H := hid hd
      clear hd
      go_wp2_with fail
      go_ret
      exact ⟨rfl, H.out.below⟩
  · skip
    refine (parts_calls 8 ⟨#[]⟩ 0 0 0 0 _).mono ?_
    rintro e w3 ⟨pa, rfl, hnew⟩
    have H9 := hid (H.out.still hnew.below)
    clear H hnew
    have H := H9
    clear H9
    rw [show many 8 = 2 from rfl]
    go_wp2_with fail
    refine (len_at H.out).mono ?_
    rintro e w4 ⟨rfl, rfl⟩
    obtain ⟨o1, ho1⟩ : ∃ o1 : Int, (L1.length : Int) = o1 := ⟨_, rfl⟩
    rw [ho1] at hL1 hL11 ⊢
    obtain ⟨r2, L2, hq2, hat2, he2, hg2, hl2⟩ := put_ok (m := 1000) (t := ⟨8, ⟨#[]⟩, 0, o1, o1, 0⟩) HG1.out (by have h0 : (⟨#[]⟩ : ByteArray).size = 0 := rfl; simp [T.may, T.only, many, T.parts, h0] <;> omega) (by omega)
    have HQ2 := hid hq2
    have HG2 := hid hg2
    have hl20 : (L2.length : Int) ≤ 12 := by omega
    have hl21 : 0 ≤ (L2.length : Int) := by omega
    have HL12 := hid (show o1 ≤ (L2.length : Int) by have := hat2.lo; have := he2.len; omega)
    clear hq2 hg2 hat2 hl2 he2
    have HO1 := hid ho1
    clear ho1
    have hk := Hd.nthk 1 H.out rfl
    have t0 := (cell_of_heap hk 0).trans (show _ = some (.int .i64 8) from rfl)
    have t1 := (cell_of_heap hk 1).trans (show _ = some (.string ⟨#[]⟩) from rfl)
    have t2 := (cell_of_heap hk 2).trans (show _ = some (.int .u64 0) from rfl)
    have t3 := (cell_of_heap hk 3).trans (show _ = some (.int .i64 0) from rfl)
    have t4 := (cell_of_heap hk 4).trans (show _ = some (.int .i64 0) from rfl)
    have t5 := (cell_of_heap hk 5).trans (show _ = some (.int .i64 0) from rfl)
    have ts := (Array.getElem?_eq_some_iff.1 hk).1
    have tf := frozen_of_heap hk
    clear hk
    go_wp2_with fail
    have H9 := hid ((((H.out.front 1 rfl).set 3 (.int .i64 o1)).set 4 (.int .i64 o1)).front 1 rfl)
    clear t0 t1 t2 t3 t4 t5 ts tf H
    have H := H9
    clear H9
    refine (put_c 8 ⟨#[]⟩ 0 o1 o1 0 HQ2 H.out).mono ?_
    rintro e w5 ⟨rfl, hd⟩
    clear H
    have H := hid hd
    clear hd
    rcases hF1 with rfl | rfl | rfl | rfl | rfl
    · skip
      have HFF := hid hF
      have h5 : x2.tmod 5 = 0 := by rw [Int.tmod_eq_emod_of_nonneg b2]; exact hF
      clear hF
      have hk := Hd.nthk 1 H.out rfl
      have t0 := (cell_of_heap hk 0).trans (show _ = some (.int .i64 8) from rfl)
      have t1 := (cell_of_heap hk 1).trans (show _ = some (.string ⟨#[]⟩) from rfl)
      have t2 := (cell_of_heap hk 2).trans (show _ = some (.int .u64 0) from rfl)
      have t3 := (cell_of_heap hk 3).trans (show _ = some (.int .i64 o1) from rfl)
      have t4 := (cell_of_heap hk 4).trans (show _ = some (.int .i64 o1) from rfl)
      have t5 := (cell_of_heap hk 5).trans (show _ = some (.int .i64 0) from rfl)
      have ts := (Array.getElem?_eq_some_iff.1 hk).1
      have tf := frozen_of_heap hk
      clear hk
      have HQ3 := hid (put_bad (m := 1000) (L := L2) (t := ⟨8, ⟨#[120]⟩, 0, o1, o1, 0⟩) (by simp [T.may, T.only, many, T.parts]))
      go_wp2_with fail
      have H9 := hid (((H.out.front 1 rfl).set 1 (.string ⟨#[120]⟩)).front 1 rfl)
      clear t0 t1 t2 t3 t4 t5 ts tf H
      have H := H9
      clear H9
      refine (put_c 8 ⟨#[120]⟩ 0 o1 o1 0 HQ3 H.out).mono ?_
      rintro e w7 ⟨rfl, hd⟩
      clear H
      have H := hid hd
      clear hd h5
      have do1 : decide (1 ≤ o1) = true := by simpa using hL1
      go_wp2_with fail
      refine (fixed2_calls H.out).mono ?_
      rintro e w8 ⟨rfl, hd⟩
      clear H
      have H := hid hd
      clear hd
      go_wp2_with fail
      go_ret
      exact ⟨rfl, H.out.below⟩
    · skip
      have HFF := hid hF
      have h5 : x2.tmod 5 = 1 := by rw [Int.tmod_eq_emod_of_nonneg b2]; exact hF
      clear hF
      have hk := Hd.nthk 1 H.out rfl
      have t0 := (cell_of_heap hk 0).trans (show _ = some (.int .i64 8) from rfl)
      have t1 := (cell_of_heap hk 1).trans (show _ = some (.string ⟨#[]⟩) from rfl)
      have t2 := (cell_of_heap hk 2).trans (show _ = some (.int .u64 0) from rfl)
      have t3 := (cell_of_heap hk 3).trans (show _ = some (.int .i64 o1) from rfl)
      have t4 := (cell_of_heap hk 4).trans (show _ = some (.int .i64 o1) from rfl)
      have t5 := (cell_of_heap hk 5).trans (show _ = some (.int .i64 0) from rfl)
      have ts := (Array.getElem?_eq_some_iff.1 hk).1
      have tf := frozen_of_heap hk
      clear hk
      have HQ3 := hid (put_bad (m := 1000) (L := L2) (t := ⟨8, ⟨#[]⟩, 9, o1, o1, 0⟩) (by simp [T.may, T.only, many, T.parts]))
      go_wp2_with fail
      have H9 := hid (((H.out.front 1 rfl).set 2 (.int .u64 9)).front 1 rfl)
      clear t0 t1 t2 t3 t4 t5 ts tf H
      have H := H9
      clear H9
      refine (put_c 8 ⟨#[]⟩ 9 o1 o1 0 HQ3 H.out).mono ?_
      rintro e w7 ⟨rfl, hd⟩
      clear H
      have H := hid hd
      clear hd h5
      have do1 : decide (1 ≤ o1) = true := by simpa using hL1
      go_wp2_with fail
      refine (fixed2_calls H.out).mono ?_
      rintro e w8 ⟨rfl, hd⟩
      clear H
      have H := hid hd
      clear hd
      go_wp2_with fail
      go_ret
      exact ⟨rfl, H.out.below⟩
    · skip
      have HFF := hid hF
      have h5 : x2.tmod 5 = 2 := by rw [Int.tmod_eq_emod_of_nonneg b2]; exact hF
      clear hF
      have hk := Hd.nthk 1 H.out rfl
      have t0 := (cell_of_heap hk 0).trans (show _ = some (.int .i64 8) from rfl)
      have t1 := (cell_of_heap hk 1).trans (show _ = some (.string ⟨#[]⟩) from rfl)
      have t2 := (cell_of_heap hk 2).trans (show _ = some (.int .u64 0) from rfl)
      have t3 := (cell_of_heap hk 3).trans (show _ = some (.int .i64 o1) from rfl)
      have t4 := (cell_of_heap hk 4).trans (show _ = some (.int .i64 o1) from rfl)
      have t5 := (cell_of_heap hk 5).trans (show _ = some (.int .i64 0) from rfl)
      have ts := (Array.getElem?_eq_some_iff.1 hk).1
      have tf := frozen_of_heap hk
      clear hk
      have HQ3 := hid (put_bad (m := 1000) (L := L2) (t := ⟨8, ⟨#[]⟩, 0, ((L2.length : Int) + 1), o1, 0⟩) (by simp [T.may, T.only, many, T.parts] <;> (intros; omega)))
      go_wp2_with fail
      refine (len_at H.out).mono ?_
      rintro e w6 ⟨rfl, rfl⟩
      go_wp2_with fail
      have H9 := hid (((H.out.front 1 rfl).set 3 (.int .i64 ((L2.length : Int) + 1))).front 1 rfl)
      clear t0 t1 t2 t3 t4 t5 ts tf H
      have H := H9
      clear H9
      refine (put_c 8 ⟨#[]⟩ 0 ((L2.length : Int) + 1) o1 0 HQ3 H.out).mono ?_
      rintro e w7 ⟨rfl, hd⟩
      clear H
      have H := hid hd
      clear hd h5
      have do1 : decide (1 ≤ o1) = true := by simpa using hL1
      go_wp2_with fail
      refine (fixed2_calls H.out).mono ?_
      rintro e w8 ⟨rfl, hd⟩
      clear H
      have H := hid hd
      clear hd
      go_wp2_with fail
      go_ret
      exact ⟨rfl, H.out.below⟩
    · skip
      have HFF := hid hF
      have h5 : x2.tmod 5 = 3 := by rw [Int.tmod_eq_emod_of_nonneg b2]; exact hF
      clear hF
      have hk := Hd.nthk 1 H.out rfl
      have t0 := (cell_of_heap hk 0).trans (show _ = some (.int .i64 8) from rfl)
      have t1 := (cell_of_heap hk 1).trans (show _ = some (.string ⟨#[]⟩) from rfl)
      have t2 := (cell_of_heap hk 2).trans (show _ = some (.int .u64 0) from rfl)
      have t3 := (cell_of_heap hk 3).trans (show _ = some (.int .i64 o1) from rfl)
      have t4 := (cell_of_heap hk 4).trans (show _ = some (.int .i64 o1) from rfl)
      have t5 := (cell_of_heap hk 5).trans (show _ = some (.int .i64 0) from rfl)
      have ts := (Array.getElem?_eq_some_iff.1 hk).1
      have tf := frozen_of_heap hk
      clear hk
      have HQ3 := hid (put_bad (m := 1000) (L := L2) (t := ⟨8, ⟨#[]⟩, 0, o1, ((L2.length : Int) + 5), 0⟩) (by simp [T.may, T.only, many, T.parts] <;> (intros; omega)))
      go_wp2_with fail
      refine (len_at H.out).mono ?_
      rintro e w6 ⟨rfl, rfl⟩
      go_wp2_with fail
      have H9 := hid (((H.out.front 1 rfl).set 4 (.int .i64 ((L2.length : Int) + 5))).front 1 rfl)
      clear t0 t1 t2 t3 t4 t5 ts tf H
      have H := H9
      clear H9
      refine (put_c 8 ⟨#[]⟩ 0 o1 ((L2.length : Int) + 5) 0 HQ3 H.out).mono ?_
      rintro e w7 ⟨rfl, hd⟩
      clear H
      have H := hid hd
      clear hd h5
      have do1 : decide (1 ≤ o1) = true := by simpa using hL1
      go_wp2_with fail
      refine (fixed2_calls H.out).mono ?_
      rintro e w8 ⟨rfl, hd⟩
      clear H
      have H := hid hd
      clear hd
      go_wp2_with fail
      go_ret
      exact ⟨rfl, H.out.below⟩
    · skip
      have HFF := hid hF
      have h5 : x2.tmod 5 = 4 := by rw [Int.tmod_eq_emod_of_nonneg b2]; exact hF
      clear hF
      have hk := Hd.nthk 1 H.out rfl
      have t0 := (cell_of_heap hk 0).trans (show _ = some (.int .i64 8) from rfl)
      have t1 := (cell_of_heap hk 1).trans (show _ = some (.string ⟨#[]⟩) from rfl)
      have t2 := (cell_of_heap hk 2).trans (show _ = some (.int .u64 0) from rfl)
      have t3 := (cell_of_heap hk 3).trans (show _ = some (.int .i64 o1) from rfl)
      have t4 := (cell_of_heap hk 4).trans (show _ = some (.int .i64 o1) from rfl)
      have t5 := (cell_of_heap hk 5).trans (show _ = some (.int .i64 0) from rfl)
      have ts := (Array.getElem?_eq_some_iff.1 hk).1
      have tf := frozen_of_heap hk
      clear hk
      have HQ3 := hid (put_bad (m := 1000) (L := L2) (t := ⟨8, ⟨#[]⟩, 0, o1, o1, (-1)⟩) (by simp [T.may, T.only, many, T.parts]))
      go_wp2_with fail
      have H9 := hid (((H.out.front 1 rfl).set 5 (.int .i64 (-1))).front 1 rfl)
      clear t0 t1 t2 t3 t4 t5 ts tf H
      have H := H9
      clear H9
      refine (put_c 8 ⟨#[]⟩ 0 o1 o1 (-1) HQ3 H.out).mono ?_
      rintro e w7 ⟨rfl, hd⟩
      clear H
      have H := hid hd
      clear hd h5
      have do1 : decide (1 ≤ o1) = true := by simpa using hL1
      go_wp2_with fail
      refine (fixed2_calls H.out).mono ?_
      rintro e w8 ⟨rfl, hd⟩
      clear H
      have H := hid hd
      clear hd
      go_wp2_with fail
      go_ret
      exact ⟨rfl, H.out.below⟩
  · skip
    refine (parts_calls 9 ⟨#[]⟩ 0 0 0 0 _).mono ?_
    rintro e w3 ⟨pa, rfl, hnew⟩
    have H9 := hid (H.out.still hnew.below)
    clear H hnew
    have H := H9
    clear H9
    rw [show many 9 = 1 from rfl]
    go_wp2_with fail
    refine (len_at H.out).mono ?_
    rintro e w4 ⟨rfl, rfl⟩
    obtain ⟨o1, ho1⟩ : ∃ o1 : Int, (L1.length : Int) = o1 := ⟨_, rfl⟩
    rw [ho1] at hL1 hL11 ⊢
    obtain ⟨r2, L2, hq2, hat2, he2, hg2, hl2⟩ := put_ok (m := 1000) (t := ⟨9, ⟨#[]⟩, 0, o1, 0, 0⟩) HG1.out (by have h0 : (⟨#[]⟩ : ByteArray).size = 0 := rfl; simp [T.may, T.only, many, T.parts, h0] <;> omega) (by omega)
    have HQ2 := hid hq2
    have HG2 := hid hg2
    have hl20 : (L2.length : Int) ≤ 12 := by omega
    have hl21 : 0 ≤ (L2.length : Int) := by omega
    have HL12 := hid (show o1 ≤ (L2.length : Int) by have := hat2.lo; have := he2.len; omega)
    clear hq2 hg2 hat2 hl2 he2
    have HO1 := hid ho1
    clear ho1
    have hk := Hd.nthk 1 H.out rfl
    have t0 := (cell_of_heap hk 0).trans (show _ = some (.int .i64 9) from rfl)
    have t1 := (cell_of_heap hk 1).trans (show _ = some (.string ⟨#[]⟩) from rfl)
    have t2 := (cell_of_heap hk 2).trans (show _ = some (.int .u64 0) from rfl)
    have t3 := (cell_of_heap hk 3).trans (show _ = some (.int .i64 0) from rfl)
    have t4 := (cell_of_heap hk 4).trans (show _ = some (.int .i64 0) from rfl)
    have t5 := (cell_of_heap hk 5).trans (show _ = some (.int .i64 0) from rfl)
    have ts := (Array.getElem?_eq_some_iff.1 hk).1
    have tf := frozen_of_heap hk
    clear hk
    go_wp2_with fail
    have H9 := hid (((H.out.front 1 rfl).set 3 (.int .i64 o1)).front 1 rfl)
    clear t0 t1 t2 t3 t4 t5 ts tf H
    have H := H9
    clear H9
    refine (put_c 9 ⟨#[]⟩ 0 o1 0 0 HQ2 H.out).mono ?_
    rintro e w5 ⟨rfl, hd⟩
    clear H
    have H := hid hd
    clear hd
    rcases hF1 with rfl | rfl | rfl | rfl | rfl
    · skip
      have HFF := hid hF
      have h5 : x2.tmod 5 = 0 := by rw [Int.tmod_eq_emod_of_nonneg b2]; exact hF
      clear hF
      have hk := Hd.nthk 1 H.out rfl
      have t0 := (cell_of_heap hk 0).trans (show _ = some (.int .i64 9) from rfl)
      have t1 := (cell_of_heap hk 1).trans (show _ = some (.string ⟨#[]⟩) from rfl)
      have t2 := (cell_of_heap hk 2).trans (show _ = some (.int .u64 0) from rfl)
      have t3 := (cell_of_heap hk 3).trans (show _ = some (.int .i64 o1) from rfl)
      have t4 := (cell_of_heap hk 4).trans (show _ = some (.int .i64 0) from rfl)
      have t5 := (cell_of_heap hk 5).trans (show _ = some (.int .i64 0) from rfl)
      have ts := (Array.getElem?_eq_some_iff.1 hk).1
      have tf := frozen_of_heap hk
      clear hk
      have HQ3 := hid (put_bad (m := 1000) (L := L2) (t := ⟨9, ⟨#[120]⟩, 0, o1, 0, 0⟩) (by simp [T.may, T.only, many, T.parts]))
      go_wp2_with fail
      have H9 := hid (((H.out.front 1 rfl).set 1 (.string ⟨#[120]⟩)).front 1 rfl)
      clear t0 t1 t2 t3 t4 t5 ts tf H
      have H := H9
      clear H9
      refine (put_c 9 ⟨#[120]⟩ 0 o1 0 0 HQ3 H.out).mono ?_
      rintro e w7 ⟨rfl, hd⟩
      clear H
      have H := hid hd
      clear hd h5
      have do1 : decide (1 ≤ o1) = true := by simpa using hL1
      go_wp2_with fail
      refine (fixed2_calls H.out).mono ?_
      rintro e w8 ⟨rfl, hd⟩
      clear H
      have H := hid hd
      clear hd
      go_wp2_with fail
      go_ret
      exact ⟨rfl, H.out.below⟩
    · skip
      have HFF := hid hF
      have h5 : x2.tmod 5 = 1 := by rw [Int.tmod_eq_emod_of_nonneg b2]; exact hF
      clear hF
      have hk := Hd.nthk 1 H.out rfl
      have t0 := (cell_of_heap hk 0).trans (show _ = some (.int .i64 9) from rfl)
      have t1 := (cell_of_heap hk 1).trans (show _ = some (.string ⟨#[]⟩) from rfl)
      have t2 := (cell_of_heap hk 2).trans (show _ = some (.int .u64 0) from rfl)
      have t3 := (cell_of_heap hk 3).trans (show _ = some (.int .i64 o1) from rfl)
      have t4 := (cell_of_heap hk 4).trans (show _ = some (.int .i64 0) from rfl)
      have t5 := (cell_of_heap hk 5).trans (show _ = some (.int .i64 0) from rfl)
      have ts := (Array.getElem?_eq_some_iff.1 hk).1
      have tf := frozen_of_heap hk
      clear hk
      obtain ⟨r3, L3, hq3, -, -, -, -⟩ := put_ok (m := 1000) (t := ⟨9, ⟨#[]⟩, 9, o1, 0, 0⟩) HG2.out (by have h0 : (⟨#[]⟩ : ByteArray).size = 0 := rfl; have h2 := HL12.out; simp [T.may, T.only, many, T.parts, h0] <;> omega) (by omega)
      have HQ3 := hid hq3
      clear hq3
      go_wp2_with fail
      have H9 := hid (((H.out.front 1 rfl).set 2 (.int .u64 9)).front 1 rfl)
      clear t0 t1 t2 t3 t4 t5 ts tf H
      have H := H9
      clear H9
      refine (put_c 9 ⟨#[]⟩ 9 o1 0 0 HQ3 H.out).mono ?_
      rintro e w7 ⟨rfl, hd⟩
      clear H
      have H := hid hd
      clear hd h5
      have do1 : decide (1 ≤ o1) = true := by simpa using hL1
      go_wp2_with fail
      refine (fixed2_calls H.out).mono ?_
      rintro e w8 ⟨rfl, hd⟩
      clear H
      have H := hid hd
      clear hd
      go_wp2_with fail
      go_ret
      exact ⟨rfl, H.out.below⟩
    · skip
      have HFF := hid hF
      have h5 : x2.tmod 5 = 2 := by rw [Int.tmod_eq_emod_of_nonneg b2]; exact hF
      clear hF
      have hk := Hd.nthk 1 H.out rfl
      have t0 := (cell_of_heap hk 0).trans (show _ = some (.int .i64 9) from rfl)
      have t1 := (cell_of_heap hk 1).trans (show _ = some (.string ⟨#[]⟩) from rfl)
      have t2 := (cell_of_heap hk 2).trans (show _ = some (.int .u64 0) from rfl)
      have t3 := (cell_of_heap hk 3).trans (show _ = some (.int .i64 o1) from rfl)
      have t4 := (cell_of_heap hk 4).trans (show _ = some (.int .i64 0) from rfl)
      have t5 := (cell_of_heap hk 5).trans (show _ = some (.int .i64 0) from rfl)
      have ts := (Array.getElem?_eq_some_iff.1 hk).1
      have tf := frozen_of_heap hk
      clear hk
      have HQ3 := hid (put_bad (m := 1000) (L := L2) (t := ⟨9, ⟨#[]⟩, 0, ((L2.length : Int) + 1), 0, 0⟩) (by simp [T.may, T.only, many, T.parts] <;> (intros; omega)))
      go_wp2_with fail
      refine (len_at H.out).mono ?_
      rintro e w6 ⟨rfl, rfl⟩
      go_wp2_with fail
      have H9 := hid (((H.out.front 1 rfl).set 3 (.int .i64 ((L2.length : Int) + 1))).front 1 rfl)
      clear t0 t1 t2 t3 t4 t5 ts tf H
      have H := H9
      clear H9
      refine (put_c 9 ⟨#[]⟩ 0 ((L2.length : Int) + 1) 0 0 HQ3 H.out).mono ?_
      rintro e w7 ⟨rfl, hd⟩
      clear H
      have H := hid hd
      clear hd h5
      have do1 : decide (1 ≤ o1) = true := by simpa using hL1
      go_wp2_with fail
      refine (fixed2_calls H.out).mono ?_
      rintro e w8 ⟨rfl, hd⟩
      clear H
      have H := hid hd
      clear hd
      go_wp2_with fail
      go_ret
      exact ⟨rfl, H.out.below⟩
    · skip
      have HFF := hid hF
      have h5 : x2.tmod 5 = 3 := by rw [Int.tmod_eq_emod_of_nonneg b2]; exact hF
      clear hF
      have hk := Hd.nthk 1 H.out rfl
      have t0 := (cell_of_heap hk 0).trans (show _ = some (.int .i64 9) from rfl)
      have t1 := (cell_of_heap hk 1).trans (show _ = some (.string ⟨#[]⟩) from rfl)
      have t2 := (cell_of_heap hk 2).trans (show _ = some (.int .u64 0) from rfl)
      have t3 := (cell_of_heap hk 3).trans (show _ = some (.int .i64 o1) from rfl)
      have t4 := (cell_of_heap hk 4).trans (show _ = some (.int .i64 0) from rfl)
      have t5 := (cell_of_heap hk 5).trans (show _ = some (.int .i64 0) from rfl)
      have ts := (Array.getElem?_eq_some_iff.1 hk).1
      have tf := frozen_of_heap hk
      clear hk
      have HQ3 := hid (put_bad (m := 1000) (L := L2) (t := ⟨9, ⟨#[]⟩, 0, o1, ((L2.length : Int) + 5), 0⟩) (by simp [T.may, T.only, many, T.parts] <;> (intros; omega)))
      go_wp2_with fail
      refine (len_at H.out).mono ?_
      rintro e w6 ⟨rfl, rfl⟩
      go_wp2_with fail
      have H9 := hid (((H.out.front 1 rfl).set 4 (.int .i64 ((L2.length : Int) + 5))).front 1 rfl)
      clear t0 t1 t2 t3 t4 t5 ts tf H
      have H := H9
      clear H9
      refine (put_c 9 ⟨#[]⟩ 0 o1 ((L2.length : Int) + 5) 0 HQ3 H.out).mono ?_
      rintro e w7 ⟨rfl, hd⟩
      clear H
      have H := hid hd
      clear hd h5
      have do1 : decide (1 ≤ o1) = true := by simpa using hL1
      go_wp2_with fail
      refine (fixed2_calls H.out).mono ?_
      rintro e w8 ⟨rfl, hd⟩
      clear H
      have H := hid hd
      clear hd
      go_wp2_with fail
      go_ret
      exact ⟨rfl, H.out.below⟩
    · skip
      have HFF := hid hF
      have h5 : x2.tmod 5 = 4 := by rw [Int.tmod_eq_emod_of_nonneg b2]; exact hF
      clear hF
      have hk := Hd.nthk 1 H.out rfl
      have t0 := (cell_of_heap hk 0).trans (show _ = some (.int .i64 9) from rfl)
      have t1 := (cell_of_heap hk 1).trans (show _ = some (.string ⟨#[]⟩) from rfl)
      have t2 := (cell_of_heap hk 2).trans (show _ = some (.int .u64 0) from rfl)
      have t3 := (cell_of_heap hk 3).trans (show _ = some (.int .i64 o1) from rfl)
      have t4 := (cell_of_heap hk 4).trans (show _ = some (.int .i64 0) from rfl)
      have t5 := (cell_of_heap hk 5).trans (show _ = some (.int .i64 0) from rfl)
      have ts := (Array.getElem?_eq_some_iff.1 hk).1
      have tf := frozen_of_heap hk
      clear hk
      have HQ3 := hid (put_bad (m := 1000) (L := L2) (t := ⟨9, ⟨#[]⟩, 0, o1, 0, (-1)⟩) (by simp [T.may, T.only, many, T.parts]))
      go_wp2_with fail
      have H9 := hid (((H.out.front 1 rfl).set 5 (.int .i64 (-1))).front 1 rfl)
      clear t0 t1 t2 t3 t4 t5 ts tf H
      have H := H9
      clear H9
      refine (put_c 9 ⟨#[]⟩ 0 o1 0 (-1) HQ3 H.out).mono ?_
      rintro e w7 ⟨rfl, hd⟩
      clear H
      have H := hid hd
      clear hd h5
      have do1 : decide (1 ≤ o1) = true := by simpa using hL1
      go_wp2_with fail
      refine (fixed2_calls H.out).mono ?_
      rintro e w8 ⟨rfl, hd⟩
      clear H
      have H := hid hd
      clear hd
      go_wp2_with fail
      go_ret
      exact ⟨rfl, H.out.below⟩
  · skip
    refine (parts_calls 10 ⟨#[]⟩ 0 0 0 0 _).mono ?_
    rintro e w3 ⟨pa, rfl, hnew⟩
    have H9 := hid (H.out.still hnew.below)
    clear H hnew
    have H := H9
    clear H9
    rw [show many 10 = 3 from rfl]
    go_wp2_with fail
    refine (len_at H.out).mono ?_
    rintro e w4 ⟨rfl, rfl⟩
    obtain ⟨o1, ho1⟩ : ∃ o1 : Int, (L1.length : Int) = o1 := ⟨_, rfl⟩
    rw [ho1] at hL1 hL11 ⊢
    obtain ⟨r2, L2, hq2, hat2, he2, hg2, hl2⟩ := put_ok (m := 1000) (t := ⟨10, ⟨#[]⟩, 0, o1, o1, o1⟩) HG1.out (by have h0 : (⟨#[]⟩ : ByteArray).size = 0 := rfl; simp [T.may, T.only, many, T.parts, h0] <;> omega) (by omega)
    have HQ2 := hid hq2
    have HG2 := hid hg2
    have hl20 : (L2.length : Int) ≤ 12 := by omega
    have hl21 : 0 ≤ (L2.length : Int) := by omega
    have HL12 := hid (show o1 ≤ (L2.length : Int) by have := hat2.lo; have := he2.len; omega)
    clear hq2 hg2 hat2 hl2 he2
    have HO1 := hid ho1
    clear ho1
    have hk := Hd.nthk 1 H.out rfl
    have t0 := (cell_of_heap hk 0).trans (show _ = some (.int .i64 10) from rfl)
    have t1 := (cell_of_heap hk 1).trans (show _ = some (.string ⟨#[]⟩) from rfl)
    have t2 := (cell_of_heap hk 2).trans (show _ = some (.int .u64 0) from rfl)
    have t3 := (cell_of_heap hk 3).trans (show _ = some (.int .i64 0) from rfl)
    have t4 := (cell_of_heap hk 4).trans (show _ = some (.int .i64 0) from rfl)
    have t5 := (cell_of_heap hk 5).trans (show _ = some (.int .i64 0) from rfl)
    have ts := (Array.getElem?_eq_some_iff.1 hk).1
    have tf := frozen_of_heap hk
    clear hk
    go_wp2_with fail
    have H9 := hid (((((H.out.front 1 rfl).set 3 (.int .i64 o1)).set 4 (.int .i64 o1)).set 5 (.int .i64 o1)).front 1 rfl)
    clear t0 t1 t2 t3 t4 t5 ts tf H
    have H := H9
    clear H9
    refine (put_c 10 ⟨#[]⟩ 0 o1 o1 o1 HQ2 H.out).mono ?_
    rintro e w5 ⟨rfl, hd⟩
    clear H
    have H := hid hd
    clear hd
    rcases hF1 with rfl | rfl | rfl | rfl | rfl
    · skip
      have HFF := hid hF
      have h5 : x2.tmod 5 = 0 := by rw [Int.tmod_eq_emod_of_nonneg b2]; exact hF
      clear hF
      have hk := Hd.nthk 1 H.out rfl
      have t0 := (cell_of_heap hk 0).trans (show _ = some (.int .i64 10) from rfl)
      have t1 := (cell_of_heap hk 1).trans (show _ = some (.string ⟨#[]⟩) from rfl)
      have t2 := (cell_of_heap hk 2).trans (show _ = some (.int .u64 0) from rfl)
      have t3 := (cell_of_heap hk 3).trans (show _ = some (.int .i64 o1) from rfl)
      have t4 := (cell_of_heap hk 4).trans (show _ = some (.int .i64 o1) from rfl)
      have t5 := (cell_of_heap hk 5).trans (show _ = some (.int .i64 o1) from rfl)
      have ts := (Array.getElem?_eq_some_iff.1 hk).1
      have tf := frozen_of_heap hk
      clear hk
      have HQ3 := hid (put_bad (m := 1000) (L := L2) (t := ⟨10, ⟨#[120]⟩, 0, o1, o1, o1⟩) (by simp [T.may, T.only, many, T.parts]))
      go_wp2_with fail
      have H9 := hid (((H.out.front 1 rfl).set 1 (.string ⟨#[120]⟩)).front 1 rfl)
      clear t0 t1 t2 t3 t4 t5 ts tf H
      have H := H9
      clear H9
      refine (put_c 10 ⟨#[120]⟩ 0 o1 o1 o1 HQ3 H.out).mono ?_
      rintro e w7 ⟨rfl, hd⟩
      clear H
      have H := hid hd
      clear hd h5
      have do1 : decide (1 ≤ o1) = true := by simpa using hL1
      go_wp2_with fail
      refine (fixed2_calls H.out).mono ?_
      rintro e w8 ⟨rfl, hd⟩
      clear H
      have H := hid hd
      clear hd
      go_wp2_with fail
      go_ret
      exact ⟨rfl, H.out.below⟩
    · skip
      have HFF := hid hF
      have h5 : x2.tmod 5 = 1 := by rw [Int.tmod_eq_emod_of_nonneg b2]; exact hF
      clear hF
      have hk := Hd.nthk 1 H.out rfl
      have t0 := (cell_of_heap hk 0).trans (show _ = some (.int .i64 10) from rfl)
      have t1 := (cell_of_heap hk 1).trans (show _ = some (.string ⟨#[]⟩) from rfl)
      have t2 := (cell_of_heap hk 2).trans (show _ = some (.int .u64 0) from rfl)
      have t3 := (cell_of_heap hk 3).trans (show _ = some (.int .i64 o1) from rfl)
      have t4 := (cell_of_heap hk 4).trans (show _ = some (.int .i64 o1) from rfl)
      have t5 := (cell_of_heap hk 5).trans (show _ = some (.int .i64 o1) from rfl)
      have ts := (Array.getElem?_eq_some_iff.1 hk).1
      have tf := frozen_of_heap hk
      clear hk
      obtain ⟨r3, L3, hq3, -, -, -, -⟩ := put_ok (m := 1000) (t := ⟨10, ⟨#[]⟩, 9, o1, o1, o1⟩) HG2.out (by have h0 : (⟨#[]⟩ : ByteArray).size = 0 := rfl; have h2 := HL12.out; simp [T.may, T.only, many, T.parts, h0] <;> omega) (by omega)
      have HQ3 := hid hq3
      clear hq3
      go_wp2_with fail
      have H9 := hid (((H.out.front 1 rfl).set 2 (.int .u64 9)).front 1 rfl)
      clear t0 t1 t2 t3 t4 t5 ts tf H
      have H := H9
      clear H9
      refine (put_c 10 ⟨#[]⟩ 9 o1 o1 o1 HQ3 H.out).mono ?_
      rintro e w7 ⟨rfl, hd⟩
      clear H
      have H := hid hd
      clear hd h5
      have do1 : decide (1 ≤ o1) = true := by simpa using hL1
      go_wp2_with fail
      refine (fixed2_calls H.out).mono ?_
      rintro e w8 ⟨rfl, hd⟩
      clear H
      have H := hid hd
      clear hd
      go_wp2_with fail
      go_ret
      exact ⟨rfl, H.out.below⟩
    · skip
      have HFF := hid hF
      have h5 : x2.tmod 5 = 2 := by rw [Int.tmod_eq_emod_of_nonneg b2]; exact hF
      clear hF
      have hk := Hd.nthk 1 H.out rfl
      have t0 := (cell_of_heap hk 0).trans (show _ = some (.int .i64 10) from rfl)
      have t1 := (cell_of_heap hk 1).trans (show _ = some (.string ⟨#[]⟩) from rfl)
      have t2 := (cell_of_heap hk 2).trans (show _ = some (.int .u64 0) from rfl)
      have t3 := (cell_of_heap hk 3).trans (show _ = some (.int .i64 o1) from rfl)
      have t4 := (cell_of_heap hk 4).trans (show _ = some (.int .i64 o1) from rfl)
      have t5 := (cell_of_heap hk 5).trans (show _ = some (.int .i64 o1) from rfl)
      have ts := (Array.getElem?_eq_some_iff.1 hk).1
      have tf := frozen_of_heap hk
      clear hk
      have HQ3 := hid (put_bad (m := 1000) (L := L2) (t := ⟨10, ⟨#[]⟩, 0, ((L2.length : Int) + 1), o1, o1⟩) (by simp [T.may, T.only, many, T.parts] <;> (intros; omega)))
      go_wp2_with fail
      refine (len_at H.out).mono ?_
      rintro e w6 ⟨rfl, rfl⟩
      go_wp2_with fail
      have H9 := hid (((H.out.front 1 rfl).set 3 (.int .i64 ((L2.length : Int) + 1))).front 1 rfl)
      clear t0 t1 t2 t3 t4 t5 ts tf H
      have H := H9
      clear H9
      refine (put_c 10 ⟨#[]⟩ 0 ((L2.length : Int) + 1) o1 o1 HQ3 H.out).mono ?_
      rintro e w7 ⟨rfl, hd⟩
      clear H
      have H := hid hd
      clear hd h5
      have do1 : decide (1 ≤ o1) = true := by simpa using hL1
      go_wp2_with fail
      refine (fixed2_calls H.out).mono ?_
      rintro e w8 ⟨rfl, hd⟩
      clear H
      have H := hid hd
      clear hd
      go_wp2_with fail
      go_ret
      exact ⟨rfl, H.out.below⟩
    · skip
      have HFF := hid hF
      have h5 : x2.tmod 5 = 3 := by rw [Int.tmod_eq_emod_of_nonneg b2]; exact hF
      clear hF
      have hk := Hd.nthk 1 H.out rfl
      have t0 := (cell_of_heap hk 0).trans (show _ = some (.int .i64 10) from rfl)
      have t1 := (cell_of_heap hk 1).trans (show _ = some (.string ⟨#[]⟩) from rfl)
      have t2 := (cell_of_heap hk 2).trans (show _ = some (.int .u64 0) from rfl)
      have t3 := (cell_of_heap hk 3).trans (show _ = some (.int .i64 o1) from rfl)
      have t4 := (cell_of_heap hk 4).trans (show _ = some (.int .i64 o1) from rfl)
      have t5 := (cell_of_heap hk 5).trans (show _ = some (.int .i64 o1) from rfl)
      have ts := (Array.getElem?_eq_some_iff.1 hk).1
      have tf := frozen_of_heap hk
      clear hk
      have HQ3 := hid (put_bad (m := 1000) (L := L2) (t := ⟨10, ⟨#[]⟩, 0, o1, ((L2.length : Int) + 5), o1⟩) (by simp [T.may, T.only, many, T.parts] <;> (intros; omega)))
      go_wp2_with fail
      refine (len_at H.out).mono ?_
      rintro e w6 ⟨rfl, rfl⟩
      go_wp2_with fail
      have H9 := hid (((H.out.front 1 rfl).set 4 (.int .i64 ((L2.length : Int) + 5))).front 1 rfl)
      clear t0 t1 t2 t3 t4 t5 ts tf H
      have H := H9
      clear H9
      refine (put_c 10 ⟨#[]⟩ 0 o1 ((L2.length : Int) + 5) o1 HQ3 H.out).mono ?_
      rintro e w7 ⟨rfl, hd⟩
      clear H
      have H := hid hd
      clear hd h5
      have do1 : decide (1 ≤ o1) = true := by simpa using hL1
      go_wp2_with fail
      refine (fixed2_calls H.out).mono ?_
      rintro e w8 ⟨rfl, hd⟩
      clear H
      have H := hid hd
      clear hd
      go_wp2_with fail
      go_ret
      exact ⟨rfl, H.out.below⟩
    · skip
      have HFF := hid hF
      have h5 : x2.tmod 5 = 4 := by rw [Int.tmod_eq_emod_of_nonneg b2]; exact hF
      clear hF
      have hk := Hd.nthk 1 H.out rfl
      have t0 := (cell_of_heap hk 0).trans (show _ = some (.int .i64 10) from rfl)
      have t1 := (cell_of_heap hk 1).trans (show _ = some (.string ⟨#[]⟩) from rfl)
      have t2 := (cell_of_heap hk 2).trans (show _ = some (.int .u64 0) from rfl)
      have t3 := (cell_of_heap hk 3).trans (show _ = some (.int .i64 o1) from rfl)
      have t4 := (cell_of_heap hk 4).trans (show _ = some (.int .i64 o1) from rfl)
      have t5 := (cell_of_heap hk 5).trans (show _ = some (.int .i64 o1) from rfl)
      have ts := (Array.getElem?_eq_some_iff.1 hk).1
      have tf := frozen_of_heap hk
      clear hk
      have HQ3 := hid (put_bad (m := 1000) (L := L2) (t := ⟨10, ⟨#[]⟩, 0, o1, o1, (-1)⟩) (by simp [T.may, T.only, many, T.parts]))
      go_wp2_with fail
      have H9 := hid (((H.out.front 1 rfl).set 5 (.int .i64 (-1))).front 1 rfl)
      clear t0 t1 t2 t3 t4 t5 ts tf H
      have H := H9
      clear H9
      refine (put_c 10 ⟨#[]⟩ 0 o1 o1 (-1) HQ3 H.out).mono ?_
      rintro e w7 ⟨rfl, hd⟩
      clear H
      have H := hid hd
      clear hd h5
      have do1 : decide (1 ≤ o1) = true := by simpa using hL1
      go_wp2_with fail
      refine (fixed2_calls H.out).mono ?_
      rintro e w8 ⟨rfl, hd⟩
      clear H
      have H := hid hd
      clear hd
      go_wp2_with fail
      go_ret
      exact ⟨rfl, H.out.below⟩
  · skip
    refine (parts_calls 11 ⟨#[]⟩ 0 0 0 0 _).mono ?_
    rintro e w3 ⟨pa, rfl, hnew⟩
    have H9 := hid (H.out.still hnew.below)
    clear H hnew
    have H := H9
    clear H9
    rw [show many 11 = 2 from rfl]
    go_wp2_with fail
    refine (len_at H.out).mono ?_
    rintro e w4 ⟨rfl, rfl⟩
    obtain ⟨o1, ho1⟩ : ∃ o1 : Int, (L1.length : Int) = o1 := ⟨_, rfl⟩
    rw [ho1] at hL1 hL11 ⊢
    obtain ⟨r2, L2, hq2, hat2, he2, hg2, hl2⟩ := put_ok (m := 1000) (t := ⟨11, ⟨#[]⟩, 0, o1, o1, 0⟩) HG1.out (by have h0 : (⟨#[]⟩ : ByteArray).size = 0 := rfl; simp [T.may, T.only, many, T.parts, h0] <;> omega) (by omega)
    have HQ2 := hid hq2
    have HG2 := hid hg2
    have hl20 : (L2.length : Int) ≤ 12 := by omega
    have hl21 : 0 ≤ (L2.length : Int) := by omega
    have HL12 := hid (show o1 ≤ (L2.length : Int) by have := hat2.lo; have := he2.len; omega)
    clear hq2 hg2 hat2 hl2 he2
    have HO1 := hid ho1
    clear ho1
    have hk := Hd.nthk 1 H.out rfl
    have t0 := (cell_of_heap hk 0).trans (show _ = some (.int .i64 11) from rfl)
    have t1 := (cell_of_heap hk 1).trans (show _ = some (.string ⟨#[]⟩) from rfl)
    have t2 := (cell_of_heap hk 2).trans (show _ = some (.int .u64 0) from rfl)
    have t3 := (cell_of_heap hk 3).trans (show _ = some (.int .i64 0) from rfl)
    have t4 := (cell_of_heap hk 4).trans (show _ = some (.int .i64 0) from rfl)
    have t5 := (cell_of_heap hk 5).trans (show _ = some (.int .i64 0) from rfl)
    have ts := (Array.getElem?_eq_some_iff.1 hk).1
    have tf := frozen_of_heap hk
    clear hk
    go_wp2_with fail
    have H9 := hid ((((H.out.front 1 rfl).set 3 (.int .i64 o1)).set 4 (.int .i64 o1)).front 1 rfl)
    clear t0 t1 t2 t3 t4 t5 ts tf H
    have H := H9
    clear H9
    refine (put_c 11 ⟨#[]⟩ 0 o1 o1 0 HQ2 H.out).mono ?_
    rintro e w5 ⟨rfl, hd⟩
    clear H
    have H := hid hd
    clear hd
    rcases hF1 with rfl | rfl | rfl | rfl | rfl
    · skip
      have HFF := hid hF
      have h5 : x2.tmod 5 = 0 := by rw [Int.tmod_eq_emod_of_nonneg b2]; exact hF
      clear hF
      have hk := Hd.nthk 1 H.out rfl
      have t0 := (cell_of_heap hk 0).trans (show _ = some (.int .i64 11) from rfl)
      have t1 := (cell_of_heap hk 1).trans (show _ = some (.string ⟨#[]⟩) from rfl)
      have t2 := (cell_of_heap hk 2).trans (show _ = some (.int .u64 0) from rfl)
      have t3 := (cell_of_heap hk 3).trans (show _ = some (.int .i64 o1) from rfl)
      have t4 := (cell_of_heap hk 4).trans (show _ = some (.int .i64 o1) from rfl)
      have t5 := (cell_of_heap hk 5).trans (show _ = some (.int .i64 0) from rfl)
      have ts := (Array.getElem?_eq_some_iff.1 hk).1
      have tf := frozen_of_heap hk
      clear hk
      have HQ3 := hid (put_bad (m := 1000) (L := L2) (t := ⟨11, ⟨#[120]⟩, 0, o1, o1, 0⟩) (by simp [T.may, T.only, many, T.parts]))
      go_wp2_with fail
      have H9 := hid (((H.out.front 1 rfl).set 1 (.string ⟨#[120]⟩)).front 1 rfl)
      clear t0 t1 t2 t3 t4 t5 ts tf H
      have H := H9
      clear H9
      refine (put_c 11 ⟨#[120]⟩ 0 o1 o1 0 HQ3 H.out).mono ?_
      rintro e w7 ⟨rfl, hd⟩
      clear H
      have H := hid hd
      clear hd h5
      have do1 : decide (1 ≤ o1) = true := by simpa using hL1
      go_wp2_with fail
      refine (fixed2_calls H.out).mono ?_
      rintro e w8 ⟨rfl, hd⟩
      clear H
      have H := hid hd
      clear hd
      go_wp2_with fail
      go_ret
      exact ⟨rfl, H.out.below⟩
    · skip
      have HFF := hid hF
      have h5 : x2.tmod 5 = 1 := by rw [Int.tmod_eq_emod_of_nonneg b2]; exact hF
      clear hF
      have hk := Hd.nthk 1 H.out rfl
      have t0 := (cell_of_heap hk 0).trans (show _ = some (.int .i64 11) from rfl)
      have t1 := (cell_of_heap hk 1).trans (show _ = some (.string ⟨#[]⟩) from rfl)
      have t2 := (cell_of_heap hk 2).trans (show _ = some (.int .u64 0) from rfl)
      have t3 := (cell_of_heap hk 3).trans (show _ = some (.int .i64 o1) from rfl)
      have t4 := (cell_of_heap hk 4).trans (show _ = some (.int .i64 o1) from rfl)
      have t5 := (cell_of_heap hk 5).trans (show _ = some (.int .i64 0) from rfl)
      have ts := (Array.getElem?_eq_some_iff.1 hk).1
      have tf := frozen_of_heap hk
      clear hk
      have HQ3 := hid (put_bad (m := 1000) (L := L2) (t := ⟨11, ⟨#[]⟩, 9, o1, o1, 0⟩) (by simp [T.may, T.only, many, T.parts]))
      go_wp2_with fail
      have H9 := hid (((H.out.front 1 rfl).set 2 (.int .u64 9)).front 1 rfl)
      clear t0 t1 t2 t3 t4 t5 ts tf H
      have H := H9
      clear H9
      refine (put_c 11 ⟨#[]⟩ 9 o1 o1 0 HQ3 H.out).mono ?_
      rintro e w7 ⟨rfl, hd⟩
      clear H
      have H := hid hd
      clear hd h5
      have do1 : decide (1 ≤ o1) = true := by simpa using hL1
      go_wp2_with fail
      refine (fixed2_calls H.out).mono ?_
      rintro e w8 ⟨rfl, hd⟩
      clear H
      have H := hid hd
      clear hd
      go_wp2_with fail
      go_ret
      exact ⟨rfl, H.out.below⟩
    · skip
      have HFF := hid hF
      have h5 : x2.tmod 5 = 2 := by rw [Int.tmod_eq_emod_of_nonneg b2]; exact hF
      clear hF
      have hk := Hd.nthk 1 H.out rfl
      have t0 := (cell_of_heap hk 0).trans (show _ = some (.int .i64 11) from rfl)
      have t1 := (cell_of_heap hk 1).trans (show _ = some (.string ⟨#[]⟩) from rfl)
      have t2 := (cell_of_heap hk 2).trans (show _ = some (.int .u64 0) from rfl)
      have t3 := (cell_of_heap hk 3).trans (show _ = some (.int .i64 o1) from rfl)
      have t4 := (cell_of_heap hk 4).trans (show _ = some (.int .i64 o1) from rfl)
      have t5 := (cell_of_heap hk 5).trans (show _ = some (.int .i64 0) from rfl)
      have ts := (Array.getElem?_eq_some_iff.1 hk).1
      have tf := frozen_of_heap hk
      clear hk
      have HQ3 := hid (put_bad (m := 1000) (L := L2) (t := ⟨11, ⟨#[]⟩, 0, ((L2.length : Int) + 1), o1, 0⟩) (by simp [T.may, T.only, many, T.parts] <;> (intros; omega)))
      go_wp2_with fail
      refine (len_at H.out).mono ?_
      rintro e w6 ⟨rfl, rfl⟩
      go_wp2_with fail
      have H9 := hid (((H.out.front 1 rfl).set 3 (.int .i64 ((L2.length : Int) + 1))).front 1 rfl)
      clear t0 t1 t2 t3 t4 t5 ts tf H
      have H := H9
      clear H9
      refine (put_c 11 ⟨#[]⟩ 0 ((L2.length : Int) + 1) o1 0 HQ3 H.out).mono ?_
      rintro e w7 ⟨rfl, hd⟩
      clear H
      have H := hid hd
      clear hd h5
      have do1 : decide (1 ≤ o1) = true := by simpa using hL1
      go_wp2_with fail
      refine (fixed2_calls H.out).mono ?_
      rintro e w8 ⟨rfl, hd⟩
      clear H
      have H := hid hd
      clear hd
      go_wp2_with fail
      go_ret
      exact ⟨rfl, H.out.below⟩
    · skip
      have HFF := hid hF
      have h5 : x2.tmod 5 = 3 := by rw [Int.tmod_eq_emod_of_nonneg b2]; exact hF
      clear hF
      have hk := Hd.nthk 1 H.out rfl
      have t0 := (cell_of_heap hk 0).trans (show _ = some (.int .i64 11) from rfl)
      have t1 := (cell_of_heap hk 1).trans (show _ = some (.string ⟨#[]⟩) from rfl)
      have t2 := (cell_of_heap hk 2).trans (show _ = some (.int .u64 0) from rfl)
      have t3 := (cell_of_heap hk 3).trans (show _ = some (.int .i64 o1) from rfl)
      have t4 := (cell_of_heap hk 4).trans (show _ = some (.int .i64 o1) from rfl)
      have t5 := (cell_of_heap hk 5).trans (show _ = some (.int .i64 0) from rfl)
      have ts := (Array.getElem?_eq_some_iff.1 hk).1
      have tf := frozen_of_heap hk
      clear hk
      have HQ3 := hid (put_bad (m := 1000) (L := L2) (t := ⟨11, ⟨#[]⟩, 0, o1, ((L2.length : Int) + 5), 0⟩) (by simp [T.may, T.only, many, T.parts] <;> (intros; omega)))
      go_wp2_with fail
      refine (len_at H.out).mono ?_
      rintro e w6 ⟨rfl, rfl⟩
      go_wp2_with fail
      have H9 := hid (((H.out.front 1 rfl).set 4 (.int .i64 ((L2.length : Int) + 5))).front 1 rfl)
      clear t0 t1 t2 t3 t4 t5 ts tf H
      have H := H9
      clear H9
      refine (put_c 11 ⟨#[]⟩ 0 o1 ((L2.length : Int) + 5) 0 HQ3 H.out).mono ?_
      rintro e w7 ⟨rfl, hd⟩
      clear H
      have H := hid hd
      clear hd h5
      have do1 : decide (1 ≤ o1) = true := by simpa using hL1
      go_wp2_with fail
      refine (fixed2_calls H.out).mono ?_
      rintro e w8 ⟨rfl, hd⟩
      clear H
      have H := hid hd
      clear hd
      go_wp2_with fail
      go_ret
      exact ⟨rfl, H.out.below⟩
    · skip
      have HFF := hid hF
      have h5 : x2.tmod 5 = 4 := by rw [Int.tmod_eq_emod_of_nonneg b2]; exact hF
      clear hF
      have hk := Hd.nthk 1 H.out rfl
      have t0 := (cell_of_heap hk 0).trans (show _ = some (.int .i64 11) from rfl)
      have t1 := (cell_of_heap hk 1).trans (show _ = some (.string ⟨#[]⟩) from rfl)
      have t2 := (cell_of_heap hk 2).trans (show _ = some (.int .u64 0) from rfl)
      have t3 := (cell_of_heap hk 3).trans (show _ = some (.int .i64 o1) from rfl)
      have t4 := (cell_of_heap hk 4).trans (show _ = some (.int .i64 o1) from rfl)
      have t5 := (cell_of_heap hk 5).trans (show _ = some (.int .i64 0) from rfl)
      have ts := (Array.getElem?_eq_some_iff.1 hk).1
      have tf := frozen_of_heap hk
      clear hk
      have HQ3 := hid (put_bad (m := 1000) (L := L2) (t := ⟨11, ⟨#[]⟩, 0, o1, o1, (-1)⟩) (by simp [T.may, T.only, many, T.parts]))
      go_wp2_with fail
      have H9 := hid (((H.out.front 1 rfl).set 5 (.int .i64 (-1))).front 1 rfl)
      clear t0 t1 t2 t3 t4 t5 ts tf H
      have H := H9
      clear H9
      refine (put_c 11 ⟨#[]⟩ 0 o1 o1 (-1) HQ3 H.out).mono ?_
      rintro e w7 ⟨rfl, hd⟩
      clear H
      have H := hid hd
      clear hd h5
      have do1 : decide (1 ≤ o1) = true := by simpa using hL1
      go_wp2_with fail
      refine (fixed2_calls H.out).mono ?_
      rintro e w8 ⟨rfl, hd⟩
      clear H
      have H := hid hd
      clear hd
      go_wp2_with fail
      go_ret
      exact ⟨rfl, H.out.below⟩
end Go.Proofs.Ytfhpgcgiogmlgaa
