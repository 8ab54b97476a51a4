/-
  Walks and laws that the proof stands on, one behind another: RegB Put LawA RefA Args RefB RMay RPut RPutB PureB RefC Stores Room Hd2 PureL Kdf RKdf Made Hd3 ChainA ChainB Own. For every input.
-/
import Derived.Test.YtpcfmafokkffgaaY1
import Derived.StillTailTactics
import Derived.Handy
import Derived.ProofKit
import Derived.Deep.Slices
import Derived.Deep.DeepCutAuto
import Derived.Deep.RegionHeld3
import Derived.Deep.RegionLaw
import Derived.Laws.Rows
import Derived.RangeFuncNested
import Derived.RangeFuncBound
import Derived.RangeFuncCalls
import Derived.RangeFuncLeaves
import Derived.Shelf.Abstract
import Derived.Shelf.RegionOpen
import Derived.OwnWalkIn
import Derived.TacticsInMore
import Derived.LoopNIn
import Derived.LoopIn
import Derived.Deep.AppendLies
namespace Go.Proofs.Ytpcfmafokkffgaa
open Go.RowKit

theorem all_listed {ops : Array Oper} (hd : ops.toList.map (fun o => (o.after.toList.filter (Region.binds .any)).map (·.on)) = deps15) {listed : Array Bool} (hs : listed.size = 23) (hr : Region.ready .any ops listed = []) : ∀ i, i < 23 → listed.getD i false = true := by
  have hlen : ops.size = 23 := by
    have := congrArg List.length hd
    simpa [deps15] using this
  have hdl : ∀ i, i < 23 → ∀ d ∈ deps15.getD i [], d < i := by decide
  intro i
  induction i using Nat.strongRecOn with
  | _ i ih =>
    intro hi
    refine Classical.byContradiction fun hne => ?_
    have h1 : listed.getD i true = false := by
      have hlt : i < listed.size := by omega
      simp only [Array.getD_eq_getD_getElem?, Array.getElem?_eq_getElem hlt, Option.getD_some] at hne ⊢
      simpa using hne
    have hio : i < ops.size := by omega
    have hmem : i ∈ Region.ready .any ops listed := mem_ready.2 ⟨h1, ops[i], Array.getElem?_eq_getElem hio, fun e he hb => by
      have h2 : deps15[i]? = some ((ops[i].after.toList.filter (Region.binds .any)).map (·.on)) := by
        rw [← hd, List.getElem?_map, Array.getElem?_toList, Array.getElem?_eq_getElem hio]; rfl
      have h3 : e.on ∈ deps15.getD i [] := by
        simp only [List.getD, h2, Option.getD_some, List.mem_map, List.mem_filter]
        exact ⟨e, ⟨by simpa using he, hb⟩, rfl⟩
      have h4 := hdl i hi e.on h3
      exact ih e.on h4 (by omega)⟩
    rw [hr] at hmem
    cases hmem

theorem getD_set_other {listed : Array Bool} {i j : Nat} (h : j ≠ i) : (listed.setIfInBounds i true).getD j false = listed.getD j false := by
  simp [Array.getElem?_setIfInBounds_ne (Ne.symm h)]
theorem getD_set_self {listed : Array Bool} {i : Nat} (h : listed.getD i true = false) : (listed.setIfInBounds i true).getD i false = true := by
  have hlt : i < listed.size := by
    rcases Nat.lt_or_ge i listed.size with h' | h'
    · exact h'
    · simp [Array.getElem?_eq_none h'] at h
  simp [hlt]
theorem getD_false {listed : Array Bool} {i : Nat} (h : listed.getD i true = false) : listed.getD i false = false := by
  cases hl : listed[i]? with
  | none => simp [hl] at h
  | some x => simp [hl] at h ⊢; exact h

/-- The world on the way. -/
structure Wd (W : World) (b lb db mb : Nat) (m : Int) (sl : Value) (n : Nat) (xs : List Value) (sd : Value) (nd : Nat) (ds : List Value) (t : T) (d : Int) (x1 x2 : Nat) (v1 v2 : Value) (c7 c8 c15 c16 c19 c22 : Bool) (X : World) : Prop where
  pw : PW W b lb db mb m (if c19 then v1 else sl) (if c22 then v2 else sd) (if c8 then v1 else sl) (if c8 then n + 1 else n) (if c8 then xs ++ T.cells t else xs) (if c16 then v2 else sd) (if c16 then nd + 1 else nd) (if c16 then ds ++ [.int .i64 (d + 1)] else ds) X
  n1 : c7 = true → c8 = false → W.heap.size ≤ x1 ∧ X.heap[x1]? = some (.cells (T.cells t).toArray 47 (0, 0))
  n2 : c15 = true → c16 = false → W.heap.size ≤ x2 ∧ X.heap[x2]? = some (.cells #[.int .i64 (d + 1)] 3 (0, 0))

theorem PW.store0 {W X : World} {b lb db mb : Nat} {m : Int} {h0 h1 vl : Value} {nl : Nat} {xs : List Value} {vd : Value} {nd : Nat} {ds : List Value} (h : PW W b lb db mb m h0 h1 vl nl xs vd nd ds X) (u : Value) :
    PW W b lb db mb m u h1 vl nl xs vd nd ds (X.setCell ⟨b, 0, none⟩ u) := by
  have hk : ∀ k, k ≠ b → (X.setCell ⟨b, 0, none⟩ u).heap[k]? = X.heap[k]? := fun k hk => Below.heap_setCell _ _ _ _ hk
  refine ⟨?_, own_keep h.ol fun g e => hk g (h.bl g e).1, own_keep h.od fun g e => hk g (h.bd g e).1, h.bl, h.bd, h.ld, h.lts, fun k k0 k1 k2 k3 => (hk k k1).trans (h.old k k0 k1 k2 k3), h.os, h.tape, h.output, by simpa using h.size⟩
  simp only [World.setCell, Array.getElem?_modify, h.hdr]
  simp
theorem PW.store1 {W X : World} {b lb db mb : Nat} {m : Int} {h0 h1 vl : Value} {nl : Nat} {xs : List Value} {vd : Value} {nd : Nat} {ds : List Value} (h : PW W b lb db mb m h0 h1 vl nl xs vd nd ds X) (u : Value) :
    PW W b lb db mb m h0 u vl nl xs vd nd ds (X.setCell ⟨b, 1, none⟩ u) := by
  have hk : ∀ k, k ≠ b → (X.setCell ⟨b, 1, none⟩ u).heap[k]? = X.heap[k]? := fun k hk => Below.heap_setCell _ _ _ _ hk
  refine ⟨?_, own_keep h.ol fun g e => hk g (h.bl g e).1, own_keep h.od fun g e => hk g (h.bd g e).1, h.bl, h.bd, h.ld, h.lts, fun k k0 k1 k2 k3 => (hk k k1).trans (h.old k k0 k1 k2 k3), h.os, h.tape, h.output, by simpa using h.size⟩
  simp only [World.setCell, Array.getElem?_modify, h.hdr]
  simp

def I15 (W : World) (b lb db mb : Nat) (m : Int) (sl : Value) (n : Nat) (xs : List Value) (sd : Value) (nd : Nat) (ds : List Value) (t : T) (d : Int) (a0 : Act) (listed : Array Bool) (a : Act) (X : World) : Prop :=
  listed.size = 23 ∧ (∀ i, i < 23 → listed.getD i false = true → ∀ d ∈ deps15.getD i [], listed.getD d false = true) ∧ ∃ x1 x2 g1 k1 g2 k2, Slots a0 (val15 b sl sd (T.val t) d x1 x2 (.slice (some ⟨g1, 0, none⟩) (n + 1) k1) (.slice (some ⟨g2, 0, none⟩) (nd + 1) k2)) listed a ∧
    Wd W b lb db mb m sl n xs sd nd ds t d x1 x2 (.slice (some ⟨g1, 0, none⟩) (n + 1) k1) (.slice (some ⟨g2, 0, none⟩) (nd + 1) k2) (listed.getD 7 false) (listed.getD 8 false) (listed.getD 15 false) (listed.getD 16 false) (listed.getD 19 false) (listed.getD 22 false) X

set_option maxHeartbeats 1000000 in
theorem region15 {ops : Array Oper} (hc : ops.toList.map (fun o => (o.dst, o.op, o.guard)) = core15) (hd : ops.toList.map (fun o => (o.after.toList.filter (Region.binds .any)).map (·.on)) = deps15) {id : Nat} {Q : Exit → Act → World → Prop} {a0 : Act} {W : World}
    {b lb db mb B lc dc : Nat} {m : Int} {n nd : Nat} {xs ds : List Value} {t : T} {d : Int} (hs : 76 < a0.tmps.size) (e0 : a0.eval (.tmp 0) = .pointer (some ⟨b, 0, none⟩)) (e3 : a0.eval (.tmp 3) = .pointer (some ⟨B, 0, none⟩)) (e8 : a0.eval (.tmp 8) = .int .i64 d)
    (hP : PW W b lb db mb m (.slice (some ⟨lb, 0, none⟩) n lc) (.slice (some ⟨db, 0, none⟩) nd dc) (.slice (some ⟨lb, 0, none⟩) n lc) n xs (.slice (some ⟨db, 0, none⟩) nd dc) nd ds W) (hbox : W.heap[B]? = some (.cells (T.cells t).toArray 47 (0, 0)))
    (hB : B ≠ b ∧ B ≠ lb ∧ B ≠ db) (hn : n ≤ 1048577) (hnd : nd ≤ 1048577) (d0 : 0 ≤ d) (d1 : d ≤ 1048577)
    (hQ : ∀ a' X g1 k1 g2 k2, a'.tmps.size = a0.tmps.size → a'.defers = a0.defers → (∀ t : Nat, (t < 56 ∨ 76 < t) → a'.eval (.tmp t) = a0.eval (.tmp t)) →
      PW W b lb db mb m (.slice (some ⟨g1, 0, none⟩) (n + 1) k1) (.slice (some ⟨g2, 0, none⟩) (nd + 1) k2) (.slice (some ⟨g1, 0, none⟩) (n + 1) k1) (n + 1) (xs ++ T.cells t) (.slice (some ⟨g2, 0, none⟩) (nd + 1) k2) (nd + 1) (ds ++ [.int .i64 (d + 1)]) X → Q .normal a' X) :
    (Code.region id ops true).wp Try.prog Q a0 W := by
  have hlen : ops.size = 23 := by
    have := congrArg List.length hd
    simpa [deps15] using this
  refine wp_region_inv (I15 W b lb db mb m (.slice (some ⟨lb, 0, none⟩) n lc) n xs (.slice (some ⟨db, 0, none⟩) nd dc) nd ds t d) (by kernel_rfl) ?_ ?_ ?_
  · refine ⟨by simp [hlen], fun i _ h => ?_, 0, 0, 0, 0, 0, 0, ⟨rfl, rfl, fun _ _ => rfl, fun i d h _ => ?_⟩, ?_⟩
    · rw [hlen] at h
      simp only [Array.getD_eq_getD_getElem?, Array.getElem?_replicate] at h
      split at h <;> simp at h
    · rw [hlen] at h
      simp only [Array.getD_eq_getD_getElem?, Array.getElem?_replicate] at h
      split at h <;> simp at h
    · rw [hlen]
      exact ⟨hP.drew, fun h => by simp at h, fun h => by simp at h⟩
  · intro listed a X ⟨hsz, hcl, x1, x2, g1, k1, g2, k2, hS, hW⟩ i hi
    obtain ⟨hu, o, ho, _⟩ := mem_ready.1 hi
    have hi23 : i < 23 := by have := (Array.getElem?_eq_some_iff.1 ho).1; omega
    have hcore := op_core hc ho
    have hsz' : (listed.setIfInBounds i true).size = 23 := by simpa using hsz
    have hself := getD_set_self hu
    have hf := getD_false hu
    have hBX : X.heap[B]? = some (.cells (T.cells t).toArray 47 (0, 0)) := (hW.pw.old B (Array.getElem?_eq_some_iff.1 hbox).1 hB.1 hB.2.1 hB.2.2).trans hbox
    have E0 : a.eval (.tmp 0) = .pointer (some ⟨b, 0, none⟩) := (hS.rest 0 (by omega)).trans e0
    have E3 : a.eval (.tmp 3) = .pointer (some ⟨B, 0, none⟩) := (hS.rest 3 (by omega)).trans e3
    have E8 : a.eval (.tmp 8) = .int .i64 d := (hS.rest 8 (by omega)).trans e8
    have hcl' : ∀ j, j < 23 → (listed.setIfInBounds i true).getD j false = true → ∀ d ∈ deps15.getD j [], (listed.setIfInBounds i true).getD d false = true := fun j hj hl d hd' => by
      have up : ∀ d, listed.getD d false = true → (listed.setIfInBounds i true).getD d false = true := fun d h => by
        by_cases e : d = i
        · rw [e]; exact hself
        · rw [getD_set_other e]; exact h
      rcases getD_set hl with e | e
      · rw [e] at hd'; exact up d (ready_dep hd d hi hd')
      · exact up d (hcl j hj e d hd')
    have hno : ∀ j, j < 23 → i ∈ deps15.getD j [] → listed.getD j false = false := fun j hj hd' => by
      cases h : listed.getD j false with
      | false => rfl
      | true => have := hcl j hj h i hd'; rw [hf] at this; cases this
    have hcases : i = 0 ∨ i = 1 ∨ i = 2 ∨ i = 3 ∨ i = 4 ∨ i = 5 ∨ i = 6 ∨ i = 7 ∨ i = 8 ∨ i = 9 ∨ i = 10 ∨ i = 11 ∨ i = 12 ∨ i = 13 ∨ i = 14 ∨ i = 15 ∨ i = 16 ∨ i = 17 ∨ i = 18 ∨ i = 19 ∨ i = 20 ∨ i = 21 ∨ i = 22 := by omega
    rcases hcases with rfl | rfl | rfl | rfl | rfl | rfl | rfl | rfl | rfl | rfl | rfl | rfl | rfl | rfl | rfl | rfl | rfl | rfl | rfl | rfl | rfl | rfl | rfl
    · simp only [core15, List.getElem?_cons_zero, Option.some.injEq, Prod.mk.injEq] at hcore
      obtain ⟨hdst, hop, hg⟩ := hcore
      refine wpOp_plain ho hg.symm ?_
      refine wp_of_run (exec_move hop.symm _ _) ?_
      rw [E0]
      exact ⟨hsz', hcl', x1, x2, g1, k1, g2, k2, hS.step hs (by rw [← hdst]; rfl) (.inr (by simp [val15])) (fun _ _ _ => rfl), by rw [getD_set_other (i := 0) (show 7 ≠ 0 by decide), getD_set_other (i := 0) (show 8 ≠ 0 by decide), getD_set_other (i := 0) (show 15 ≠ 0 by decide), getD_set_other (i := 0) (show 16 ≠ 0 by decide), getD_set_other (i := 0) (show 19 ≠ 0 by decide), getD_set_other (i := 0) (show 22 ≠ 0 by decide)]; exact hW⟩
    · simp only [core15, List.getElem?_cons_succ, List.getElem?_cons_zero, Option.some.injEq, Prod.mk.injEq] at hcore
      obtain ⟨hdst, hop, hg⟩ := hcore
      refine wpOp_plain ho hg.symm ?_
      refine wp_of_run (exec_move hop.symm _ _) ?_
      rw [E0]
      exact ⟨hsz', hcl', x1, x2, g1, k1, g2, k2, hS.step hs (by rw [← hdst]; rfl) (.inr (by simp [val15])) (fun _ _ _ => rfl), by rw [getD_set_other (i := 1) (show 7 ≠ 1 by decide), getD_set_other (i := 1) (show 8 ≠ 1 by decide), getD_set_other (i := 1) (show 15 ≠ 1 by decide), getD_set_other (i := 1) (show 16 ≠ 1 by decide), getD_set_other (i := 1) (show 19 ≠ 1 by decide), getD_set_other (i := 1) (show 22 ≠ 1 by decide)]; exact hW⟩
    · simp only [core15, List.getElem?_cons_succ, List.getElem?_cons_zero, Option.some.injEq, Prod.mk.injEq] at hcore
      obtain ⟨hdst, hop, hg⟩ := hcore
      refine wpOp_plain ho hg.symm ?_
      refine wp_of_run (exec_move hop.symm _ _) ?_
      rw [E0]
      exact ⟨hsz', hcl', x1, x2, g1, k1, g2, k2, hS.step hs (by rw [← hdst]; rfl) (.inr (by simp [val15])) (fun _ _ _ => rfl), by rw [getD_set_other (i := 2) (show 7 ≠ 2 by decide), getD_set_other (i := 2) (show 8 ≠ 2 by decide), getD_set_other (i := 2) (show 15 ≠ 2 by decide), getD_set_other (i := 2) (show 16 ≠ 2 by decide), getD_set_other (i := 2) (show 19 ≠ 2 by decide), getD_set_other (i := 2) (show 22 ≠ 2 by decide)]; exact hW⟩
    · simp only [core15, List.getElem?_cons_succ, List.getElem?_cons_zero, Option.some.injEq, Prod.mk.injEq] at hcore
      obtain ⟨hdst, hop, hg⟩ := hcore
      refine wpOp_plain ho hg.symm ?_
      refine wp_of_run (exec_nil hop.symm (hS.has 2 58 (ready_dep hd 2 hi (by decide)) rfl) _ _) ?_
      exact ⟨hsz', hcl', x1, x2, g1, k1, g2, k2, hS.step hs (by rw [← hdst]; rfl) (.inr (by simp [val15])) (fun _ _ _ => rfl), by rw [getD_set_other (i := 3) (show 7 ≠ 3 by decide), getD_set_other (i := 3) (show 8 ≠ 3 by decide), getD_set_other (i := 3) (show 15 ≠ 3 by decide), getD_set_other (i := 3) (show 16 ≠ 3 by decide), getD_set_other (i := 3) (show 19 ≠ 3 by decide), getD_set_other (i := 3) (show 22 ≠ 3 by decide)]; exact hW⟩
    · simp only [core15, List.getElem?_cons_succ, List.getElem?_cons_zero, Option.some.injEq, Prod.mk.injEq] at hcore
      obtain ⟨hdst, hop, hg⟩ := hcore
      refine wpOp_plain ho hg.symm ?_
      refine wp_of_run (exec_fa0 hop.symm (hS.has 3 59 (ready_dep hd 3 hi (by decide)) rfl) _) ?_
      exact ⟨hsz', hcl', x1, x2, g1, k1, g2, k2, hS.step hs (by rw [← hdst]; rfl) (.inr (by simp [val15])) (fun _ _ _ => rfl), by rw [getD_set_other (i := 4) (show 7 ≠ 4 by decide), getD_set_other (i := 4) (show 8 ≠ 4 by decide), getD_set_other (i := 4) (show 15 ≠ 4 by decide), getD_set_other (i := 4) (show 16 ≠ 4 by decide), getD_set_other (i := 4) (show 19 ≠ 4 by decide), getD_set_other (i := 4) (show 22 ≠ 4 by decide)]; exact hW⟩
    · simp only [core15, List.getElem?_cons_succ, List.getElem?_cons_zero, Option.some.injEq, Prod.mk.injEq] at hcore
      obtain ⟨hdst, hop, hg⟩ := hcore
      refine wpOp_plain ho hg.symm ?_
      have hpw := hW.pw
      rw [hno 19 (by omega) (by decide)] at hpw
      refine wp_of_run (exec_load_l hop.symm (hS.has 4 60 (ready_dep hd 4 hi (by decide)) rfl) hpw.c0) ?_
      exact ⟨hsz', hcl', x1, x2, g1, k1, g2, k2, hS.step hs (by rw [← hdst]; rfl) (.inr (by simp [val15])) (fun _ _ _ => rfl), by rw [getD_set_other (i := 5) (show 7 ≠ 5 by decide), getD_set_other (i := 5) (show 8 ≠ 5 by decide), getD_set_other (i := 5) (show 15 ≠ 5 by decide), getD_set_other (i := 5) (show 16 ≠ 5 by decide), getD_set_other (i := 5) (show 19 ≠ 5 by decide), getD_set_other (i := 5) (show 22 ≠ 5 by decide)]; exact hW⟩
    · simp only [core15, List.getElem?_cons_succ, List.getElem?_cons_zero, Option.some.injEq, Prod.mk.injEq] at hcore
      obtain ⟨hdst, hop, hg⟩ := hcore
      refine wpOp_plain ho hg.symm ?_
      refine wp_of_run (exec_load_t hop.symm E3 hBX) ?_
      exact ⟨hsz', hcl', x1, x2, g1, k1, g2, k2, hS.step hs (by rw [← hdst]; rfl) (.inr (by simp [val15])) (fun _ _ _ => rfl), by rw [getD_set_other (i := 6) (show 7 ≠ 6 by decide), getD_set_other (i := 6) (show 8 ≠ 6 by decide), getD_set_other (i := 6) (show 15 ≠ 6 by decide), getD_set_other (i := 6) (show 16 ≠ 6 by decide), getD_set_other (i := 6) (show 19 ≠ 6 by decide), getD_set_other (i := 6) (show 22 ≠ 6 by decide)]; exact hW⟩
    · simp only [core15, List.getElem?_cons_succ, List.getElem?_cons_zero, Option.some.injEq, Prod.mk.injEq] at hcore
      obtain ⟨hdst, hop, hg⟩ := hcore
      refine wpOp_plain ho hg.symm ?_
      refine wp_of_run (exec_build_t hop.symm (hS.has 6 62 (ready_dep hd 6 hi (by decide)) rfl)) ?_
      have hpw := hW.pw
      refine ⟨hsz', hcl', X.heap.size, x2, g1, k1, g2, k2, hS.step hs (by rw [← hdst]; rfl) (.inr (by simp [val15])) (fun j hj _ => by simp [val15, hj]), ?_⟩
      rw [getD_set_other (i := 7) (show 8 ≠ 7 by decide), getD_set_other (i := 7) (show 15 ≠ 7 by decide), getD_set_other (i := 7) (show 16 ≠ 7 by decide), getD_set_other (i := 7) (show 19 ≠ 7 by decide), getD_set_other (i := 7) (show 22 ≠ 7 by decide)]
      exact ⟨hpw.alloc _, fun _ _ => ⟨hpw.size, heap_at rfl⟩, fun h1 h2 => ⟨(hW.n2 h1 h2).1, (Below.heap_alloc _ _ _ (Array.getElem?_eq_some_iff.1 (hW.n2 h1 h2).2).1).trans (hW.n2 h1 h2).2⟩⟩
    · simp only [core15, List.getElem?_cons_succ, List.getElem?_cons_zero, Option.some.injEq, Prod.mk.injEq] at hcore
      obtain ⟨hdst, hop, hg⟩ := hcore
      refine wpOp_plain ho hg.symm ?_
      have hpw := hW.pw
      rw [hf, hno 19 (by omega) (by decide), hno 16 (by omega) (by decide), hno 22 (by omega) (by decide)] at hpw
      have hn1 := hW.n1 (ready_dep hd 7 hi (by decide)) hf
      have key := step_l (ops := ops) (a := a) (K := fun a' w' => I15 W b lb db mb m (.slice (some ⟨lb, 0, none⟩) n lc) n xs (.slice (some ⟨db, 0, none⟩) nd dc) nd ds t d a0 (listed.setIfInBounds 8 true) a' w') (Q := Q) (E := True) hg.symm (.tmp 61) (.tmp 63) hop.symm t x1 hpw (hS.has 5 61 (ready_dep hd 5 hi (by decide)) rfl) (hS.has 7 63 (ready_dep hd 7 hi (by decide)) rfl) hn1.2 hn ?_
      · rw [if_pos (by simp [Region.wanted, ← hg])] at key; exact key
      · intro g cap X' hp' hkeep hsize
        refine ⟨hsz', hcl', x1, x2, g, cap, g2, k2, hS.step hs (by rw [← hdst]; rfl) (.inr (by simp [val15])) (fun j hj _ => by simp [val15, hj]), ?_⟩
        rw [getD_set_other (i := 8) (show 7 ≠ 8 by decide), getD_set_other (i := 8) (show 15 ≠ 8 by decide), getD_set_other (i := 8) (show 16 ≠ 8 by decide), getD_set_other (i := 8) (show 19 ≠ 8 by decide), getD_set_other (i := 8) (show 22 ≠ 8 by decide), hself, hno 19 (by omega) (by decide), hno 16 (by omega) (by decide), hno 22 (by omega) (by decide)]
        refine ⟨hp', (fun _ h => by cases h), fun h1 h2 => ?_⟩
        have h3 := hW.n2 h1 (hno 16 (by omega) (by decide))
        exact ⟨h3.1, (hkeep x2 (Array.getElem?_eq_some_iff.1 h3.2).1 ⟨h3.1, fun e => by simp [Value.ownBlock] at e; have := hP.lts.2.1; omega⟩).trans h3.2⟩
    · simp only [core15, List.getElem?_cons_succ, List.getElem?_cons_zero, Option.some.injEq, Prod.mk.injEq] at hcore
      obtain ⟨hdst, hop, hg⟩ := hcore
      refine wpOp_plain ho hg.symm ?_
      refine wp_of_run (exec_move hop.symm _ _) ?_
      rw [E0]
      exact ⟨hsz', hcl', x1, x2, g1, k1, g2, k2, hS.step hs (by rw [← hdst]; rfl) (.inr (by simp [val15])) (fun _ _ _ => rfl), by rw [getD_set_other (i := 9) (show 7 ≠ 9 by decide), getD_set_other (i := 9) (show 8 ≠ 9 by decide), getD_set_other (i := 9) (show 15 ≠ 9 by decide), getD_set_other (i := 9) (show 16 ≠ 9 by decide), getD_set_other (i := 9) (show 19 ≠ 9 by decide), getD_set_other (i := 9) (show 22 ≠ 9 by decide)]; exact hW⟩
    · simp only [core15, List.getElem?_cons_succ, List.getElem?_cons_zero, Option.some.injEq, Prod.mk.injEq] at hcore
      obtain ⟨hdst, hop, hg⟩ := hcore
      refine wpOp_plain ho hg.symm ?_
      refine wp_of_run (exec_nil hop.symm (hS.has 9 65 (ready_dep hd 9 hi (by decide)) rfl) _ _) ?_
      exact ⟨hsz', hcl', x1, x2, g1, k1, g2, k2, hS.step hs (by rw [← hdst]; rfl) (.inr (by simp [val15])) (fun _ _ _ => rfl), by rw [getD_set_other (i := 10) (show 7 ≠ 10 by decide), getD_set_other (i := 10) (show 8 ≠ 10 by decide), getD_set_other (i := 10) (show 15 ≠ 10 by decide), getD_set_other (i := 10) (show 16 ≠ 10 by decide), getD_set_other (i := 10) (show 19 ≠ 10 by decide), getD_set_other (i := 10) (show 22 ≠ 10 by decide)]; exact hW⟩
    · simp only [core15, List.getElem?_cons_succ, List.getElem?_cons_zero, Option.some.injEq, Prod.mk.injEq] at hcore
      obtain ⟨hdst, hop, hg⟩ := hcore
      refine wpOp_plain ho hg.symm ?_
      refine wp_of_run (exec_fa1 hop.symm (hS.has 10 66 (ready_dep hd 10 hi (by decide)) rfl) _) ?_
      exact ⟨hsz', hcl', x1, x2, g1, k1, g2, k2, hS.step hs (by rw [← hdst]; rfl) (.inr (by simp [val15])) (fun _ _ _ => rfl), by rw [getD_set_other (i := 11) (show 7 ≠ 11 by decide), getD_set_other (i := 11) (show 8 ≠ 11 by decide), getD_set_other (i := 11) (show 15 ≠ 11 by decide), getD_set_other (i := 11) (show 16 ≠ 11 by decide), getD_set_other (i := 11) (show 19 ≠ 11 by decide), getD_set_other (i := 11) (show 22 ≠ 11 by decide)]; exact hW⟩
    · simp only [core15, List.getElem?_cons_succ, List.getElem?_cons_zero, Option.some.injEq, Prod.mk.injEq] at hcore
      obtain ⟨hdst, hop, hg⟩ := hcore
      refine wpOp_plain ho hg.symm ?_
      have hpw := hW.pw
      rw [hno 22 (by omega) (by decide)] at hpw
      refine wp_of_run (exec_load_d hop.symm (hS.has 11 67 (ready_dep hd 11 hi (by decide)) rfl) hpw.c1) ?_
      exact ⟨hsz', hcl', x1, x2, g1, k1, g2, k2, hS.step hs (by rw [← hdst]; rfl) (.inr (by simp [val15])) (fun _ _ _ => rfl), by rw [getD_set_other (i := 12) (show 7 ≠ 12 by decide), getD_set_other (i := 12) (show 8 ≠ 12 by decide), getD_set_other (i := 12) (show 15 ≠ 12 by decide), getD_set_other (i := 12) (show 16 ≠ 12 by decide), getD_set_other (i := 12) (show 19 ≠ 12 by decide), getD_set_other (i := 12) (show 22 ≠ 12 by decide)]; exact hW⟩
    · simp only [core15, List.getElem?_cons_succ, List.getElem?_cons_zero, Option.some.injEq, Prod.mk.injEq] at hcore
      obtain ⟨hdst, hop, hg⟩ := hcore
      refine wpOp_plain ho hg.symm ?_
      refine wp_of_run (exec_move hop.symm _ _) ?_
      rw [E8]
      exact ⟨hsz', hcl', x1, x2, g1, k1, g2, k2, hS.step hs (by rw [← hdst]; rfl) (.inr (by simp [val15])) (fun _ _ _ => rfl), by rw [getD_set_other (i := 13) (show 7 ≠ 13 by decide), getD_set_other (i := 13) (show 8 ≠ 13 by decide), getD_set_other (i := 13) (show 15 ≠ 13 by decide), getD_set_other (i := 13) (show 16 ≠ 13 by decide), getD_set_other (i := 13) (show 19 ≠ 13 by decide), getD_set_other (i := 13) (show 22 ≠ 13 by decide)]; exact hW⟩
    · simp only [core15, List.getElem?_cons_succ, List.getElem?_cons_zero, Option.some.injEq, Prod.mk.injEq] at hcore
      obtain ⟨hdst, hop, hg⟩ := hcore
      refine wpOp_plain ho hg.symm ?_
      refine wp_of_run (exec_add1 hop.symm (hS.has 13 69 (ready_dep hd 13 hi (by decide)) rfl) rfl d0 d1) ?_
      exact ⟨hsz', hcl', x1, x2, g1, k1, g2, k2, hS.step hs (by rw [← hdst]; rfl) (.inr (by simp [val15])) (fun _ _ _ => rfl), by rw [getD_set_other (i := 14) (show 7 ≠ 14 by decide), getD_set_other (i := 14) (show 8 ≠ 14 by decide), getD_set_other (i := 14) (show 15 ≠ 14 by decide), getD_set_other (i := 14) (show 16 ≠ 14 by decide), getD_set_other (i := 14) (show 19 ≠ 14 by decide), getD_set_other (i := 14) (show 22 ≠ 14 by decide)]; exact hW⟩
    · simp only [core15, List.getElem?_cons_succ, List.getElem?_cons_zero, Option.some.injEq, Prod.mk.injEq] at hcore
      obtain ⟨hdst, hop, hg⟩ := hcore
      refine wpOp_plain ho hg.symm ?_
      refine wp_of_run (exec_build_d hop.symm (hS.has 14 70 (ready_dep hd 14 hi (by decide)) rfl)) ?_
      have hpw := hW.pw
      refine ⟨hsz', hcl', x1, X.heap.size, g1, k1, g2, k2, hS.step hs (by rw [← hdst]; rfl) (.inr (by simp [val15])) (fun j hj _ => by simp [val15, hj]), ?_⟩
      rw [getD_set_other (i := 15) (show 7 ≠ 15 by decide), getD_set_other (i := 15) (show 8 ≠ 15 by decide), getD_set_other (i := 15) (show 16 ≠ 15 by decide), getD_set_other (i := 15) (show 19 ≠ 15 by decide), getD_set_other (i := 15) (show 22 ≠ 15 by decide)]
      exact ⟨hpw.alloc _, fun h1 h2 => ⟨(hW.n1 h1 h2).1, (Below.heap_alloc _ _ _ (Array.getElem?_eq_some_iff.1 (hW.n1 h1 h2).2).1).trans (hW.n1 h1 h2).2⟩, fun _ _ => ⟨hpw.size, heap_at rfl⟩⟩
    · simp only [core15, List.getElem?_cons_succ, List.getElem?_cons_zero, Option.some.injEq, Prod.mk.injEq] at hcore
      obtain ⟨hdst, hop, hg⟩ := hcore
      refine wpOp_plain ho hg.symm ?_
      have hpw := hW.pw
      have h8 := ready_dep hd 8 hi (by decide)
      rw [hf, hno 19 (by omega) (by decide), h8, hno 22 (by omega) (by decide)] at hpw
      have hn2 := hW.n2 (ready_dep hd 15 hi (by decide)) hf
      have key := step_d (ops := ops) (a := a) (K := fun a' w' => I15 W b lb db mb m (.slice (some ⟨lb, 0, none⟩) n lc) n xs (.slice (some ⟨db, 0, none⟩) nd dc) nd ds t d a0 (listed.setIfInBounds 16 true) a' w') (Q := Q) (E := True) hg.symm (.tmp 68) (.tmp 71) hop.symm (d + 1) x2 hpw (hS.has 12 68 (ready_dep hd 12 hi (by decide)) rfl) (hS.has 15 71 (ready_dep hd 15 hi (by decide)) rfl) hn2.2 hnd ?_
      · rw [if_pos (by simp [Region.wanted, ← hg])] at key; exact key
      · intro g cap X' hp' hkeep hsize
        refine ⟨hsz', hcl', x1, x2, g1, k1, g, cap, hS.step hs (by rw [← hdst]; rfl) (.inr (by simp [val15])) (fun j hj _ => by simp [val15, hj]), ?_⟩
        rw [getD_set_other (i := 16) (show 7 ≠ 16 by decide), getD_set_other (i := 16) (show 8 ≠ 16 by decide), getD_set_other (i := 16) (show 15 ≠ 16 by decide), getD_set_other (i := 16) (show 19 ≠ 16 by decide), getD_set_other (i := 16) (show 22 ≠ 16 by decide), hself, hno 19 (by omega) (by decide), h8, hno 22 (by omega) (by decide)]
        exact ⟨hp', (fun _ h => by cases h), (fun _ h => by cases h)⟩
    · simp only [core15, List.getElem?_cons_succ, List.getElem?_cons_zero, Option.some.injEq, Prod.mk.injEq] at hcore
      obtain ⟨hdst, hop, hg⟩ := hcore
      refine wpOp_plain ho hg.symm ?_
      refine wp_of_run (exec_nil hop.symm (hS.has 0 56 (ready_dep hd 0 hi (by decide)) rfl) _ _) ?_
      exact ⟨hsz', hcl', x1, x2, g1, k1, g2, k2, hS.step hs (by rw [← hdst]; rfl) (.inr (by simp [val15])) (fun _ _ _ => rfl), by rw [getD_set_other (i := 17) (show 7 ≠ 17 by decide), getD_set_other (i := 17) (show 8 ≠ 17 by decide), getD_set_other (i := 17) (show 15 ≠ 17 by decide), getD_set_other (i := 17) (show 16 ≠ 17 by decide), getD_set_other (i := 17) (show 19 ≠ 17 by decide), getD_set_other (i := 17) (show 22 ≠ 17 by decide)]; exact hW⟩
    · simp only [core15, List.getElem?_cons_succ, List.getElem?_cons_zero, Option.some.injEq, Prod.mk.injEq] at hcore
      obtain ⟨hdst, hop, hg⟩ := hcore
      refine wpOp_plain ho hg.symm ?_
      refine wp_of_run (exec_fa0 hop.symm (hS.has 17 73 (ready_dep hd 17 hi (by decide)) rfl) _) ?_
      exact ⟨hsz', hcl', x1, x2, g1, k1, g2, k2, hS.step hs (by rw [← hdst]; rfl) (.inr (by simp [val15])) (fun _ _ _ => rfl), by rw [getD_set_other (i := 18) (show 7 ≠ 18 by decide), getD_set_other (i := 18) (show 8 ≠ 18 by decide), getD_set_other (i := 18) (show 15 ≠ 18 by decide), getD_set_other (i := 18) (show 16 ≠ 18 by decide), getD_set_other (i := 18) (show 19 ≠ 18 by decide), getD_set_other (i := 18) (show 22 ≠ 18 by decide)]; exact hW⟩
    · simp only [core15, List.getElem?_cons_succ, List.getElem?_cons_zero, Option.some.injEq, Prod.mk.injEq] at hcore
      obtain ⟨hdst, hop, hg⟩ := hcore
      refine wpOp_plain ho hg.symm ?_
      have hpw := hW.pw
      have h8 := ready_dep hd 8 hi (by decide)
      have h16 := ready_dep hd 16 hi (by decide)
      refine wp_of_skip (exec_store_l hop.symm (hS.has 18 74 (ready_dep hd 18 hi (by decide)) rfl) (hS.has 8 64 (ready_dep hd 8 hi (by decide)) rfl) hpw.c0 hpw.f0) ?_
      refine ⟨hsz', hcl', x1, x2, g1, k1, g2, k2, hS.step hs (by rw [← hdst]; rfl) (.inl rfl) (fun _ _ _ => rfl), ?_⟩
      rw [getD_set_other (i := 19) (show 7 ≠ 19 by decide), getD_set_other (i := 19) (show 8 ≠ 19 by decide), getD_set_other (i := 19) (show 15 ≠ 19 by decide), getD_set_other (i := 19) (show 16 ≠ 19 by decide), getD_set_other (i := 19) (show 22 ≠ 19 by decide), hself]
      exact ⟨hpw.store0 _, (fun _ h => by rw [h8] at h; cases h), (fun _ h => by rw [h16] at h; cases h)⟩
    · simp only [core15, List.getElem?_cons_succ, List.getElem?_cons_zero, Option.some.injEq, Prod.mk.injEq] at hcore
      obtain ⟨hdst, hop, hg⟩ := hcore
      refine wpOp_plain ho hg.symm ?_
      refine wp_of_run (exec_nil hop.symm (hS.has 1 57 (ready_dep hd 1 hi (by decide)) rfl) _ _) ?_
      exact ⟨hsz', hcl', x1, x2, g1, k1, g2, k2, hS.step hs (by rw [← hdst]; rfl) (.inr (by simp [val15])) (fun _ _ _ => rfl), by rw [getD_set_other (i := 20) (show 7 ≠ 20 by decide), getD_set_other (i := 20) (show 8 ≠ 20 by decide), getD_set_other (i := 20) (show 15 ≠ 20 by decide), getD_set_other (i := 20) (show 16 ≠ 20 by decide), getD_set_other (i := 20) (show 19 ≠ 20 by decide), getD_set_other (i := 20) (show 22 ≠ 20 by decide)]; exact hW⟩
    · simp only [core15, List.getElem?_cons_succ, List.getElem?_cons_zero, Option.some.injEq, Prod.mk.injEq] at hcore
      obtain ⟨hdst, hop, hg⟩ := hcore
      refine wpOp_plain ho hg.symm ?_
      refine wp_of_run (exec_fa1 hop.symm (hS.has 20 75 (ready_dep hd 20 hi (by decide)) rfl) _) ?_
      exact ⟨hsz', hcl', x1, x2, g1, k1, g2, k2, hS.step hs (by rw [← hdst]; rfl) (.inr (by simp [val15])) (fun _ _ _ => rfl), by rw [getD_set_other (i := 21) (show 7 ≠ 21 by decide), getD_set_other (i := 21) (show 8 ≠ 21 by decide), getD_set_other (i := 21) (show 15 ≠ 21 by decide), getD_set_other (i := 21) (show 16 ≠ 21 by decide), getD_set_other (i := 21) (show 19 ≠ 21 by decide), getD_set_other (i := 21) (show 22 ≠ 21 by decide)]; exact hW⟩
    · simp only [core15, List.getElem?_cons_succ, List.getElem?_cons_zero, Option.some.injEq, Prod.mk.injEq] at hcore
      obtain ⟨hdst, hop, hg⟩ := hcore
      refine wpOp_plain ho hg.symm ?_
      have hpw := hW.pw
      have h8 := ready_dep hd 8 hi (by decide)
      have h16 := ready_dep hd 16 hi (by decide)
      refine wp_of_skip (exec_store_d hop.symm (hS.has 21 76 (ready_dep hd 21 hi (by decide)) rfl) (hS.has 16 72 (ready_dep hd 16 hi (by decide)) rfl) hpw.c1 hpw.f1) ?_
      refine ⟨hsz', hcl', x1, x2, g1, k1, g2, k2, hS.step hs (by rw [← hdst]; rfl) (.inl rfl) (fun _ _ _ => rfl), ?_⟩
      rw [getD_set_other (i := 22) (show 7 ≠ 22 by decide), getD_set_other (i := 22) (show 8 ≠ 22 by decide), getD_set_other (i := 22) (show 15 ≠ 22 by decide), getD_set_other (i := 22) (show 16 ≠ 22 by decide), getD_set_other (i := 22) (show 19 ≠ 22 by decide), hself]
      exact ⟨hpw.store1 _, (fun _ h => by rw [h8] at h; cases h), (fun _ h => by rw [h16] at h; cases h)⟩
  · intro listed a X ⟨hsz, hcl, x1, x2, g1, k1, g2, k2, hS, hW⟩ hr
    have hall := all_listed hd hsz hr
    have hpw := hW.pw
    rw [hall 8 (by omega), hall 16 (by omega), hall 19 (by omega), hall 22 (by omega)] at hpw
    exact hQ a X g1 k1 g2 k2 hS.size hS.defers hS.rest hpw
end Go.Proofs.Ytpcfmafokkffgaa
namespace Go.Proofs.Ytpcfmafokkffgaa
open Go.RowKit

set_option maxRecDepth 100000 in
set_option maxHeartbeats 2000000 in
theorem put_no {b : Nat} {L : List T} {m : Int} {lb db mb lc dc : Nat} (k : Int) (s : ByteArray) (n a b' c : Int) {w : World} (h : StoAt w b L m lb db mb lc dc)
    (hm : ¬ T.may L.length ⟨k, s, n, a, b', c⟩) :
    Calls Try.prog 24 #[.pointer (some ⟨b, 0, none⟩), T.val ⟨k, s, n, a, b', c⟩] w fun e w' => e = .returned (.tuple #[.int .i64 0, .int .i64 1]) ∧ Below w.heap.size w w' := by
  have Hq : Hid (∀ w', StoAt w' b L m lb db mb lc dc → Calls Try.prog 57 #[.pointer (some ⟨b, 0, none⟩), .agg #[.int .i64 k, .string s, .int .u64 n, .int .i64 a, .int .i64 b', .int .i64 c]] w' fun e w'' =>
      e = .returned (.bool false) ∧ Below w'.heap.size w' w'') := hid fun w' h' => by
    have hq := may_calls k s n a b' c h'
    rw [decide_eq_false hm] at hq
    exact hq
  have Hs : Hid (∀ o, StoAt (w.alloc o) b L m lb db mb lc dc) := hid fun o => h.later ((Below.refl _ _).alloc (Nat.le_refl _) _)
  clear h hm
  simp only [T.val]
  go_enter Try.func24, Try.ntmps24
  go_wp2_with fail
  refine (Hq.out _ (Hs.out _)).mono ?_
  rintro e w1 ⟨rfl, hb1⟩
  go_wp2_with fail
  go_ret2
  exact ⟨rfl, ((Below.refl _ _).alloc (Nat.le_refl _) _).trans (hb1.mono (by simp <;> omega))⟩

set_option maxRecDepth 100000 in
set_option maxHeartbeats 2000000 in
theorem put_is {b : Nat} {L : List T} {m : Int} {lb db mb lc dc : Nat} (k : Int) (s : ByteArray) (n a b' c : Int) {w : World} (h : StoAt w b L m lb db mb lc dc)
    (hm : T.may L.length ⟨k, s, n, a, b', c⟩) {i : Nat} (hi : find ⟨k, s, n, a, b', c⟩ L = some i) :
    Calls Try.prog 24 #[.pointer (some ⟨b, 0, none⟩), T.val ⟨k, s, n, a, b', c⟩] w fun e w' => e = .returned (.tuple #[.int .i64 ((i : Int) + 1), .int .i64 0]) ∧ Below w.heap.size w w' := by
  have Hq : Hid (∀ w', StoAt w' b L m lb db mb lc dc → Calls Try.prog 57 #[.pointer (some ⟨b, 0, none⟩), .agg #[.int .i64 k, .string s, .int .u64 n, .int .i64 a, .int .i64 b', .int .i64 c]] w' fun e w'' =>
      e = .returned (.bool true) ∧ Below w'.heap.size w' w'') := hid fun w' h' => by
    have hq := may_calls k s n a b' c h'
    rw [decide_eq_true hm] at hq
    exact hq
  have Hk : Hid (∀ w', StoAt w' b L m lb db mb lc dc → ∀ w'', w''.heap[mb]? = w'.heap[mb]? → (Instr.lookup 116 (.map (some mb)) (.agg #[.int .i64 k, .string s, .int .u64 n, .int .i64 a, .int .i64 b', .int .i64 c]) true).run Try.prog w'' =
      .ok (.tuple #[.int .i64 ((i : Int) + 1), .bool true]) w'') := hid fun w' h' w'' hw => by
    obtain ⟨es, ck, h1, h2⟩ := h'.hm
    have := lookup_T ⟨k, s, n, a, b', c⟩ w'' (hw.trans h1) h2
    rw [hi] at this
    exact this
  have Hs : Hid (∀ o, StoAt (w.alloc o) b L m lb db mb lc dc) := hid fun o => h.later ((Below.refl _ _).alloc (Nat.le_refl _) _)
  clear h hm hi
  simp only [T.val]
  go_enter Try.func24, Try.ntmps24
  go_wp2_with fail
  refine (Hq.out _ (Hs.out _)).mono ?_
  rintro e w1 ⟨rfl, hb1⟩
  have hs1 := (Hs.out _).later hb1
  have hbox : w1.heap[w.heap.size]? = some (.cells #[.int .i64 k, .string s, .int .u64 n, .int .i64 a, .int .i64 b', .int .i64 c] 47) := by rw [hb1.block _ (by simp)]; exact heap_at rfl
  have hbw : Below w.heap.size w w1 := ((Below.refl _ _).alloc (Nat.le_refl _) _).trans (hb1.mono (by simp <;> omega))
  clear hb1
  go_wp2_with fail
  have c2 : ∀ x : Later w1, x.w.cell? ⟨b, 2, none⟩ = some (.map (some mb)) := fun x => x.cell hs1.c2
  have d0 : ∀ x : Later w1, x.w.cell? ⟨w.heap.size, 0, none⟩ = some (.int .i64 k) := fun x => x.cell (by rw [cell_of_heap hbox]; rfl)
  have d1 : ∀ x : Later w1, x.w.cell? ⟨w.heap.size, 1, none⟩ = some (.string s) := fun x => x.cell (by rw [cell_of_heap hbox]; rfl)
  have d2 : ∀ x : Later w1, x.w.cell? ⟨w.heap.size, 2, none⟩ = some (.int .u64 n) := fun x => x.cell (by rw [cell_of_heap hbox]; rfl)
  have d3 : ∀ x : Later w1, x.w.cell? ⟨w.heap.size, 3, none⟩ = some (.int .i64 a) := fun x => x.cell (by rw [cell_of_heap hbox]; rfl)
  have d4 : ∀ x : Later w1, x.w.cell? ⟨w.heap.size, 4, none⟩ = some (.int .i64 b') := fun x => x.cell (by rw [cell_of_heap hbox]; rfl)
  have d5 : ∀ x : Later w1, x.w.cell? ⟨w.heap.size, 5, none⟩ = some (.int .i64 c) := fun x => x.cell (by rw [cell_of_heap hbox]; rfl)
  have hlk : ∀ x : Later w1, (Instr.lookup 116 (.map (some mb)) (.agg #[.int .i64 k, .string s, .int .u64 n, .int .i64 a, .int .i64 b', .int .i64 c]) true).run Try.prog x.w = .ok (.tuple #[.int .i64 ((i : Int) + 1), .bool true]) x.w :=
    fun x => Hk.out _ hs1 _ (x.below.block _ hs1.mlt)
  have Hbox := hid hbox
  clear hbox
  refine wp_region_calm (by kernel_rfl) (by kernel_rfl) ?_
  repeat (go_big_quiet_step (fail))
  refine wpQuiet_nil ?_
  intro w3 hw3
  obtain ⟨⟨w3, hb3⟩, rfl⟩ := hw3
  clear c2 d0 d1 d2 d3 d4 d5 hlk
  go_wp2_with fail
  go_ret2
  exact ⟨rfl, hbw.trans (hb3.mono hbw.size)⟩
set_option maxRecDepth 100000 in
set_option maxHeartbeats 2000000 in
theorem put_full {b : Nat} {L : List T} {m : Int} {lb db mb lc dc : Nat} (k : Int) (s : ByteArray) (n a b' c : Int) {w : World} (h : StoAt w b L m lb db mb lc dc)
    (hm : T.may L.length ⟨k, s, n, a, b', c⟩) (hi : find ⟨k, s, n, a, b', c⟩ L = none) (hfull : m ≤ L.length) :
    Calls Try.prog 24 #[.pointer (some ⟨b, 0, none⟩), T.val ⟨k, s, n, a, b', c⟩] w fun e w' => e = .returned (.tuple #[.int .i64 0, .int .i64 4]) ∧ Below w.heap.size w w' := by
  have Hq : Hid (∀ w', StoAt w' b L m lb db mb lc dc → Calls Try.prog 57 #[.pointer (some ⟨b, 0, none⟩), .agg #[.int .i64 k, .string s, .int .u64 n, .int .i64 a, .int .i64 b', .int .i64 c]] w' fun e w'' =>
      e = .returned (.bool true) ∧ Below w'.heap.size w' w'') := hid fun w' h' => by
    have hq := may_calls k s n a b' c h'
    rw [decide_eq_true hm] at hq
    exact hq
  have Hk : Hid (∀ w', StoAt w' b L m lb db mb lc dc → ∀ w'', w''.heap[mb]? = w'.heap[mb]? → (Instr.lookup 116 (.map (some mb)) (.agg #[.int .i64 k, .string s, .int .u64 n, .int .i64 a, .int .i64 b', .int .i64 c]) true).run Try.prog w'' =
      .ok (.tuple #[.int .i64 0, .bool false]) w'') := hid fun w' h' w'' hw => by
    obtain ⟨es, ck, h1, h2⟩ := h'.hm
    have := lookup_T ⟨k, s, n, a, b', c⟩ w'' (hw.trans h1) h2
    rw [hi] at this
    exact this
  have Hs : Hid (∀ o, StoAt (w.alloc o) b L m lb db mb lc dc) := hid fun o => h.later ((Below.refl _ _).alloc (Nat.le_refl _) _)
  clear h hm hi
  simp only [T.val]
  go_enter Try.func24, Try.ntmps24
  go_wp2_with fail
  refine (Hq.out _ (Hs.out _)).mono ?_
  rintro e w1 ⟨rfl, hb1⟩
  have hs1 := (Hs.out _).later hb1
  have hbox : w1.heap[w.heap.size]? = some (.cells #[.int .i64 k, .string s, .int .u64 n, .int .i64 a, .int .i64 b', .int .i64 c] 47) := by rw [hb1.block _ (by simp)]; exact heap_at rfl
  have hbw : Below w.heap.size w w1 := ((Below.refl _ _).alloc (Nat.le_refl _) _).trans (hb1.mono (by simp <;> omega))
  clear hb1
  go_wp2_with fail
  have c2 : ∀ x : Later w1, x.w.cell? ⟨b, 2, none⟩ = some (.map (some mb)) := fun x => x.cell hs1.c2
  have d0 : ∀ x : Later w1, x.w.cell? ⟨w.heap.size, 0, none⟩ = some (.int .i64 k) := fun x => x.cell (by rw [cell_of_heap hbox]; rfl)
  have d1 : ∀ x : Later w1, x.w.cell? ⟨w.heap.size, 1, none⟩ = some (.string s) := fun x => x.cell (by rw [cell_of_heap hbox]; rfl)
  have d2 : ∀ x : Later w1, x.w.cell? ⟨w.heap.size, 2, none⟩ = some (.int .u64 n) := fun x => x.cell (by rw [cell_of_heap hbox]; rfl)
  have d3 : ∀ x : Later w1, x.w.cell? ⟨w.heap.size, 3, none⟩ = some (.int .i64 a) := fun x => x.cell (by rw [cell_of_heap hbox]; rfl)
  have d4 : ∀ x : Later w1, x.w.cell? ⟨w.heap.size, 4, none⟩ = some (.int .i64 b') := fun x => x.cell (by rw [cell_of_heap hbox]; rfl)
  have d5 : ∀ x : Later w1, x.w.cell? ⟨w.heap.size, 5, none⟩ = some (.int .i64 c) := fun x => x.cell (by rw [cell_of_heap hbox]; rfl)
  have hlk : ∀ x : Later w1, (Instr.lookup 116 (.map (some mb)) (.agg #[.int .i64 k, .string s, .int .u64 n, .int .i64 a, .int .i64 b', .int .i64 c]) true).run Try.prog x.w = .ok (.tuple #[.int .i64 0, .bool false]) x.w :=
    fun x => Hk.out _ hs1 _ (x.below.block _ hs1.mlt)
  have Hbox := hid hbox
  clear hbox
  refine wp_region_calm (by kernel_rfl) (by kernel_rfl) ?_
  repeat (go_big_quiet_step (fail))
  refine wpQuiet_nil ?_
  intro w3 hw3
  obtain ⟨⟨w3, hb3⟩, rfl⟩ := hw3
  clear c2 d0 d1 d2 d3 d4 d5 hlk
  go_wp2_with fail
  have hs3 := hs1.later hb3
  have hbw3 := hbw.trans (hb3.mono hbw.size)
  have hd : decide (m ≤ (L.length : Int)) = true := by simpa using hfull
  have c3 : ∀ x : Later w3, x.w.cell? ⟨b, 3, none⟩ = some (.int .i64 m) := fun x => x.cell hs3.c3
  have Hs3 : Hid (∀ x : Later w3, StoAt x.w b L m lb db mb lc dc) := hid fun x => hs3.later x.below
  clear hfull hs3
  refine wp_region_calm (by kernel_rfl) (by kernel_rfl) ?_
  repeat (go_big_quiet_step ((go_at_call 18; exact Calls.calm_same (len_calls' (Hs3.out _)))))
  refine wpQuiet_nil ?_
  intro w4 hw4
  obtain ⟨⟨w4, hb4⟩, rfl⟩ := hw4
  clear c3
  go_wp2_with fail
  go_ret2
  exact ⟨rfl, hbw3.trans (hb4.mono hbw3.size)⟩

def patch (f : Nat → Value) : Nat → List Value → List Value
  | _, [] => []
  | i, v :: l => (if 56 ≤ i ∧ i ≤ 76 then f i else v) :: patch f (i + 1) l

theorem patch_get (f : Nat → Value) : ∀ (l : List Value) (i j : Nat), (patch f i l)[j]? = (l[j]?).map fun v => if 56 ≤ i + j ∧ i + j ≤ 76 then f (i + j) else v
  | [], i, j => by simp [patch]
  | v :: l, i, 0 => by simp [patch]
  | v :: l, i, j + 1 => by
    simp only [patch, List.getElem?_cons_succ, patch_get f l (i + 1) j]
    rw [show i + 1 + j = i + (j + 1) from by omega]

theorem act_lit {a a0 : Act} (hs : a.tmps.size = a0.tmps.size) (hd : a.defers = a0.defers) (hr : ∀ t : Nat, (t < 56 ∨ 76 < t) → a.eval (.tmp t) = a0.eval (.tmp t)) :
    a = { tmps := (patch (fun i => a.eval (.tmp i)) 0 a0.tmps.toList).toArray, defers := a0.defers } := by
  obtain ⟨t, d⟩ := a
  obtain ⟨t0, d0⟩ := a0
  dsimp only at hs hd
  subst hd
  congr 1
  apply Array.ext_getElem?
  intro i
  simp only [List.getElem?_toArray, patch_get, Nat.zero_add, Array.getElem?_toList]
  by_cases h : i < t.size
  · have h3 : i < t0.size := by omega
    simp only [Array.getElem?_eq_getElem h, Array.getElem?_eq_getElem h3, Option.map_some, Option.some.injEq]
    split
    · simp [Act.eval, h]
    · have := hr i (by omega)
      simpa [Act.eval, h, h3] using this
  · have h3 : ¬ i < t0.size := by omega
    simp [h, h3]

theorem deepest_le {ds : List Int} {n : Int} (h0 : 0 ≤ n) (h : ∀ x ∈ ds, 0 ≤ x ∧ x ≤ n) (ps : List Int) : 0 ≤ deepest ds ps ∧ deepest ds ps ≤ n := by
  have key : ∀ (ps : List Int) (m : Int), 0 ≤ m → m ≤ n → 0 ≤ ps.foldl (fun m p => max m (ds.getD p.toNat 0)) m ∧ ps.foldl (fun m p => max m (ds.getD p.toNat 0)) m ≤ n := by
    intro ps
    induction ps with
    | nil => intro m h1 h2; exact ⟨h1, h2⟩
    | cons p ps ih =>
      intro m h1 h2
      have hd : 0 ≤ ds.getD p.toNat 0 ∧ ds.getD p.toNat 0 ≤ n := by
        by_cases hp : p.toNat < ds.length
        · rw [show ds.getD p.toNat 0 = ds[p.toNat] from by simp [List.getD, List.getElem?_eq_getElem hp]]
          exact h _ (List.getElem_mem hp)
        · rw [show ds.getD p.toNat 0 = 0 from by simp [List.getD, List.getElem?_eq_none (Nat.le_of_not_lt hp)]]
          exact ⟨Int.le_refl _, h0⟩
      exact ih _ (by dsimp only; rw [Int.max_def]; split <;> omega) (by dsimp only; rw [Int.max_def]; split <;> omega)
  exact key ps 0 (Int.le_refl _) h0

theorem depths_range (L : List T) : ∀ x ∈ depths L, 0 ≤ x ∧ x ≤ (L.length : Int) := by
  have key : ∀ (n : Nat) (L : List T), L.length = n → ∀ x ∈ depths L, 0 ≤ x ∧ x ≤ (L.length : Int) := by
    intro n
    induction n with
    | zero =>
      intro L hL x hx
      obtain rfl := List.eq_nil_of_length_eq_zero hL
      simp [depths] at hx
      subst hx; simp
    | succ n ih =>
      intro L hL x hx
      obtain ⟨M, t, rfl⟩ : ∃ M t, L = M ++ [t] := ⟨L.dropLast, L.getLast (by intro e; simp [e] at hL), (List.dropLast_concat_getLast _).symm⟩
      have hM : M.length = n := by simp at hL; exact hL
      have ihM := ih M hM
      rw [depths_snoc, List.mem_append, List.mem_singleton] at hx
      simp only [List.length_append, List.length_cons, List.length_nil]
      rcases hx with hx | hx
      · have := ihM x hx; omega
      · have := deepest_le (by omega) ihM t.parts
        omega
  exact key _ L rfl

theorem deepest_range {L : List T} (ps : List Int) : 0 ≤ deepest (depths L) ps ∧ deepest (depths L) ps ≤ L.length := deepest_le (by omega) (depths_range L) ps

/-- What a put of a new term leaves. -/
def PutPost (b : Nat) (L : List T) (m : Int) (t : T) (f : Frag) (w w' : World) : Prop :=
  ∃ g : Frag, Sto b (L ++ [t]) m g ∧ FragIn g w' ∧ (∀ k, g k ≠ none → f k ≠ none ∨ w.heap.size ≤ k) ∧ w'.os = w.os ∧ w'.tape = w.tape ∧ w'.output = w.output ∧ w.heap.size ≤ w'.heap.size ∧ (∀ k, k < w.heap.size → f k = none → w'.heap[k]? = w.heap[k]?)

theorem put_end {b lb db mb lc dc ck : Nat} {lcur dcur : Array Value} {es : Array MapEntry} {L : List T} {m : Int} {t : T} {w w5 X : World} {g1 k1 g2 k2 : Nat} {dd : Int} (hf : FragIn (stoFrag b lb db mb lc dc ck lcur dcur es (L.length + 1) m) w) (hok : StoOk b lb db mb lc dc lcur dcur es L m)
    (hb : Below w.heap.size w w5) (hX : PW w5 b lb db mb m (.slice (some ⟨g1, 0, none⟩) (L.length + 1 + 1) k1) (.slice (some ⟨g2, 0, none⟩) (L.length + 1 + 1) k2) (.slice (some ⟨g1, 0, none⟩) (L.length + 1 + 1) k1) (L.length + 1 + 1) (cellsOf (zeroT :: L) ++ T.cells t)
      (.slice (some ⟨g2, 0, none⟩) (L.length + 1 + 1) k2) (L.length + 1 + 1) (ints (depths L) ++ [.int .i64 (dd + 1)]) X) (hm : t.may L.length) (hi : find t L = none) (hlt : (L.length : Int) < m) (hd : deepest (depths L) t.parts = dd) :
    PutPost b L m t (stoFrag b lb db mb lc dc ck lcur dcur es (L.length + 1) m) w (setMap X.drew mb (.map (es.push { key := T.val t, val := .int .i64 ((L.length : Int) + 1), born := ck }) (ck + 1))) := by
  obtain ⟨p1, p2, p3, p4, p5, p6⟩ := hok.apart
  have hmb : mb < w.heap.size := (Array.getElem?_eq_some_iff.1 (hf mb (.map es ck) (by simp [stoFrag, Ne.symm p3, Ne.symm p5, Ne.symm p6]))).1
  have hs5 := hb.size
  have hsX := hX.size
  obtain ⟨q1, q2⟩ := hX.bl g1 rfl
  obtain ⟨r1, r2⟩ := hX.bd g2 rfl
  have s1 : g1 ≠ g2 := fun e => hX.ld g1 rfl (by rw [e]; rfl)
  have hg1 : g1 ≠ mb := by rcases q2 with e | e <;> omega
  have hg2 : g2 ≠ mb := by rcases r2 with e | e <;> omega
  obtain ⟨ol1, ol2⟩ := hX.ol
  obtain ⟨od1, od2⟩ := hX.od
  rcases ol2 with ⟨h, _⟩ | ⟨g1', k1', lcur', hv1, _, hl2, hl3, hl4, hl5, hl6⟩
  · cases h
  rcases od2 with ⟨h, _⟩ | ⟨g2', k2', dcur', hv2, _, hd2, hd3, hd4, hd5, hd6⟩
  · cases h
  obtain ⟨rfl, rfl⟩ : g1' = g1 ∧ k1' = k1 := by simp at hv1; exact ⟨hv1.1.symm, hv1.2.symm⟩
  obtain ⟨rfl, rfl⟩ : g2' = g2 ∧ k2' = k2 := by simp at hv2; exact ⟨hv2.1.symm, hv2.2.symm⟩
  have hne : ∀ (o : Obj) (k : Nat), k ≠ mb → (setMap X.drew mb o).heap[k]? = X.heap[k]? := fun o k hk => by
    simp only [setMap, heap_drew, Array.getElem?_setIfInBounds_ne (Ne.symm hk)]
  have hat : ∀ (o : Obj), (setMap X.drew mb o).heap[mb]? = some o := fun o => by
    simp only [setMap, heap_drew]
    exact Array.getElem?_setIfInBounds_self_of_lt (by omega)
  have hsz : ∀ (o : Obj), (setMap X.drew mb o).heap.size = X.heap.size := fun o => by simp [setMap, heap_drew]
  refine ⟨stoFrag b g1' g2' mb k1' k2' (ck + 1) lcur' dcur' (es.push { key := T.val t, val := .int .i64 ((L.length : Int) + 1), born := ck }) (L.length + 1 + 1) m,
    ⟨g1', g2', mb, k1', k2', ck + 1, lcur', dcur', es.push { key := T.val t, val := .int .i64 ((L.length : Int) + 1), born := ck }, by simp, ?_⟩, stoFrag_in ?_ ?_ ?_ (hat _), fun k hk => ?_, hX.os.trans hb.os, hX.tape.trans hb.tape, hX.output.trans hb.output, by rw [hsz]; omega, fun k hk hfk => ?_⟩
  · refine ⟨hok.good.snoc hm (find_none.1 hi), hok.m0, hok.m1, by simp; omega, ⟨Ne.symm q1, Ne.symm r1, p3, s1, hg1, hg2⟩, hl5, by simpa using hl3, hl4, ?_, by simpa using hd5, by simpa using hd3, hd4, ?_, names_push hok.names⟩
    · rw [show (L ++ [t]).length + 1 = L.length + 1 + 1 from by simp, hl6]
      simp [cellsOf]
    · rw [show (L ++ [t]).length + 1 = L.length + 1 + 1 from by simp]
      have : dcur'.toList.take (L.length + 1 + 1) = ints (depths L) ++ [.int .i64 (dd + 1)] := by simpa using hd6
      rw [this, depths_snoc, hd]
      simp [ints]
  · rw [hne _ _ p3]; exact hX.hdr
  · rw [hne _ _ hg1]; exact hl2
  · rw [hne _ _ hg2]; exact hd2
  · rcases stoFrag_at hk with rfl | rfl | rfl | rfl
    · left; simp [stoFrag]
    · rcases q2 with rfl | e
      · left; simp [stoFrag, Ne.symm p1]
      · right; omega
    · rcases r2 with rfl | e
      · left; simp [stoFrag, Ne.symm p2, Ne.symm p4]
      · right; omega
    · left; simp [stoFrag, Ne.symm p3, Ne.symm p5, Ne.symm p6]
  · have hk1 : k ≠ b := fun e => by subst e; simp [stoFrag] at hfk
    have hk2 : k ≠ lb := fun e => by subst e; simp [stoFrag, Ne.symm p1] at hfk
    have hk3 : k ≠ db := fun e => by subst e; simp [stoFrag, Ne.symm p2, Ne.symm p4] at hfk
    have hk4 : k ≠ mb := fun e => by subst e; simp [stoFrag, Ne.symm p3, Ne.symm p5, Ne.symm p6] at hfk
    rw [hne _ _ hk4, hX.old k (by omega) hk1 hk2 hk3, hb.block k hk]

set_option maxRecDepth 100000 in
set_option maxHeartbeats 2000000 in
theorem put_new {b : Nat} {L : List T} {m : Int} {lb db mb lc dc ck : Nat} {lcur dcur : Array Value} {es : Array MapEntry} (k : Int) (s : ByteArray) (n a b' c : Int) {w : World} (hfr : FragIn (stoFrag b lb db mb lc dc ck lcur dcur es (L.length + 1) m) w)
    (hok : StoOk b lb db mb lc dc lcur dcur es L m)
    (hm : T.may L.length ⟨k, s, n, a, b', c⟩) (hi : find ⟨k, s, n, a, b', c⟩ L = none) (hfull : L.length < m) :
    Calls Try.prog 24 #[.pointer (some ⟨b, 0, none⟩), T.val ⟨k, s, n, a, b', c⟩] w fun e w' => e = .returned (.tuple #[.int .i64 (L.length + 1), .int .i64 0]) ∧ PutPost b L m ⟨k, s, n, a, b', c⟩ (stoFrag b lb db mb lc dc ck lcur dcur es (L.length + 1) m) w w' := by
  have h := stoAt_of hfr hok
  have hs1lt : b < w.heap.size ∧ lb < w.heap.size ∧ db < w.heap.size := ⟨h.lt, h.llt, h.dlt⟩
  have Hfr := hid hfr
  have Hok := hid hok
  clear hfr hok
  have Hq : Hid (∀ w', StoAt w' b L m lb db mb lc dc → Calls Try.prog 57 #[.pointer (some ⟨b, 0, none⟩), .agg #[.int .i64 k, .string s, .int .u64 n, .int .i64 a, .int .i64 b', .int .i64 c]] w' fun e w'' =>
      e = .returned (.bool true) ∧ Below w'.heap.size w' w'') := hid fun w' h' => by
    have hq := may_calls k s n a b' c h'
    rw [decide_eq_true hm] at hq
    exact hq
  have Hk : Hid (∀ w', StoAt w' b L m lb db mb lc dc → ∀ w'', w''.heap[mb]? = w'.heap[mb]? → (Instr.lookup 116 (.map (some mb)) (.agg #[.int .i64 k, .string s, .int .u64 n, .int .i64 a, .int .i64 b', .int .i64 c]) true).run Try.prog w'' =
      .ok (.tuple #[.int .i64 0, .bool false]) w'') := hid fun w' h' w'' hw => by
    obtain ⟨es, ck, h1, h2⟩ := h'.hm
    have := lookup_T ⟨k, s, n, a, b', c⟩ w'' (hw.trans h1) h2
    rw [hi] at this
    exact this
  have Hs : Hid (∀ o, StoAt (w.alloc o) b L m lb db mb lc dc) := hid fun o => h.later ((Below.refl _ _).alloc (Nat.le_refl _) _)
  have Hm := hid hm
  have hfull' := hfull
  have hlen' := h.len
  have hmlt := h.mlt
  have Hi := hid hi
  have hm1' := h.m1
  clear h hm hi
  simp only [T.val]
  go_enter Try.func24, Try.ntmps24
  go_wp2_with fail
  refine (Hq.out _ (Hs.out _)).mono ?_
  rintro e w1 ⟨rfl, hb1⟩
  have hs1 := (Hs.out _).later hb1
  have hbox : w1.heap[w.heap.size]? = some (.cells #[.int .i64 k, .string s, .int .u64 n, .int .i64 a, .int .i64 b', .int .i64 c] 47) := by rw [hb1.block _ (by simp)]; exact heap_at rfl
  have hbw : Below w.heap.size w w1 := ((Below.refl _ _).alloc (Nat.le_refl _) _).trans (hb1.mono (by simp <;> omega))
  clear hb1
  go_wp2_with fail
  have c2 : ∀ x : Later w1, x.w.cell? ⟨b, 2, none⟩ = some (.map (some mb)) := fun x => x.cell hs1.c2
  have d0 : ∀ x : Later w1, x.w.cell? ⟨w.heap.size, 0, none⟩ = some (.int .i64 k) := fun x => x.cell (by rw [cell_of_heap hbox]; rfl)
  have d1 : ∀ x : Later w1, x.w.cell? ⟨w.heap.size, 1, none⟩ = some (.string s) := fun x => x.cell (by rw [cell_of_heap hbox]; rfl)
  have d2 : ∀ x : Later w1, x.w.cell? ⟨w.heap.size, 2, none⟩ = some (.int .u64 n) := fun x => x.cell (by rw [cell_of_heap hbox]; rfl)
  have d3 : ∀ x : Later w1, x.w.cell? ⟨w.heap.size, 3, none⟩ = some (.int .i64 a) := fun x => x.cell (by rw [cell_of_heap hbox]; rfl)
  have d4 : ∀ x : Later w1, x.w.cell? ⟨w.heap.size, 4, none⟩ = some (.int .i64 b') := fun x => x.cell (by rw [cell_of_heap hbox]; rfl)
  have d5 : ∀ x : Later w1, x.w.cell? ⟨w.heap.size, 5, none⟩ = some (.int .i64 c) := fun x => x.cell (by rw [cell_of_heap hbox]; rfl)
  have hlk : ∀ x : Later w1, (Instr.lookup 116 (.map (some mb)) (.agg #[.int .i64 k, .string s, .int .u64 n, .int .i64 a, .int .i64 b', .int .i64 c]) true).run Try.prog x.w = .ok (.tuple #[.int .i64 0, .bool false]) x.w :=
    fun x => Hk.out _ hs1 _ (x.below.block _ hs1.mlt)
  have hBlt : w.heap.size < w1.heap.size := (Array.getElem?_eq_some_iff.1 hbox).1
  have Hbox := hid hbox
  clear hbox
  refine wp_region_calm (by kernel_rfl) (by kernel_rfl) ?_
  repeat (go_big_quiet_step (fail))
  refine wpQuiet_nil ?_
  intro w3 hw3
  obtain ⟨⟨w3, hb3⟩, rfl⟩ := hw3
  clear c2 d0 d1 d2 d3 d4 d5 hlk
  go_wp2_with fail
  have hs3 := hs1.later hb3
  have hbw3 := hbw.trans (hb3.mono hbw.size)
  have hd : decide (m ≤ (L.length : Int)) = false := by simp; omega
  have c3 : ∀ x : Later w3, x.w.cell? ⟨b, 3, none⟩ = some (.int .i64 m) := fun x => x.cell hs3.c3
  have Hs3 : Hid (∀ x : Later w3, StoAt x.w b L m lb db mb lc dc) := hid fun x => hs3.later x.below
  clear hfull hs3
  refine wp_region_calm (by kernel_rfl) (by kernel_rfl) ?_
  repeat (go_big_quiet_step ((go_at_call 18; exact Calls.calm_same (len_calls' (Hs3.out _)))))
  refine wpQuiet_nil ?_
  intro w4 hw4
  obtain ⟨⟨w4, hb4⟩, rfl⟩ := hw4
  clear c3
  have hs4 := Hs3.out ⟨w4, hb4⟩
  have hbw4 := hbw3.trans (hb4.mono hbw3.size)
  have hbox4 : w4.heap[w.heap.size]? = some (.cells #[.int .i64 k, .string s, .int .u64 n, .int .i64 a, .int .i64 b', .int .i64 c] 47) := by
    rw [hb4.block _ (by have := hb3.size; omega), hb3.block _ hBlt]; exact Hbox.out
  have e0 : w4.cell? ⟨w.heap.size, 0, none⟩ = some (.int .i64 k) := by rw [cell_of_heap hbox4]; rfl
  have e1 : w4.cell? ⟨w.heap.size, 1, none⟩ = some (.string s) := by rw [cell_of_heap hbox4]; rfl
  have e2 : w4.cell? ⟨w.heap.size, 2, none⟩ = some (.int .u64 n) := by rw [cell_of_heap hbox4]; rfl
  have e3 : w4.cell? ⟨w.heap.size, 3, none⟩ = some (.int .i64 a) := by rw [cell_of_heap hbox4]; rfl
  have e4 : w4.cell? ⟨w.heap.size, 4, none⟩ = some (.int .i64 b') := by rw [cell_of_heap hbox4]; rfl
  have e5 : w4.cell? ⟨w.heap.size, 5, none⟩ = some (.int .i64 c) := by rw [cell_of_heap hbox4]; rfl
  clear hs1 Hs3
  go_wp2_with fail
  refine (parts_calls k s n a b' c _).mono ?_
  rintro e w5 ⟨ad, rfl, hb5, hl⟩
  have hs5 := hs4.later hb5
  have hbw5 := hbw4.trans (hb5.mono hbw4.size)
  have hbox5 : w5.heap[w.heap.size]? = some (.cells #[.int .i64 k, .string s, .int .u64 n, .int .i64 a, .int .i64 b', .int .i64 c] 47) := by rw [hb5.block _ (by have := (Array.getElem?_eq_some_iff.1 hbox4).1; omega)]; exact hbox4
  clear e0 e1 e2 e3 e4 e5 hbox4 hs4
  have hpl : (T.parts ⟨k, s, n, a, b', c⟩).length = many k := parts_length _
  have hpi : ∀ j, j < many k → 1 ≤ (T.parts ⟨k, s, n, a, b', c⟩).getD j 0 ∧ (T.parts ⟨k, s, n, a, b', c⟩).getD j 0 ≤ L.length := fun j hj => by
    refine Hm.out.2.2.2.2.2 _ ?_
    rw [← hpl] at hj
    rw [show (T.parts ⟨k, s, n, a, b', c⟩).getD j 0 = (T.parts ⟨k, s, n, a, b', c⟩)[j] from by simp [List.getD, List.getElem?_eq_getElem hj]]
    exact List.getElem_mem hj
  go_wp2_with fail
  have hm3 := many_le k
  generalize hps : T.parts ⟨k, s, n, a, b', c⟩ = ps at *
  have Hpl := hid hpl
  have Hpi := hid hpi
  have Hps := hid hps
  clear hpl hpi hps
  generalize many k = q at *
  have c1 := hs5.c1
  have c0 := hs5.c0
  go_loop [8, 37] (fun d i => ∃ j : Nat, j ≤ q ∧ i = .int .i64 j ∧ d = .int .i64 (deepest (depths L) (ps.take j))) (fun _ i => q - (intOf i).toNat)
  case atStart => exact ⟨0, Nat.zero_le _, rfl, by simp [deepest]⟩
  case round =>
    obtain ⟨j, hj, rfl, rfl⟩ := hrel
    by_cases hlt : j < q
    · have hlen : j < ps.length := by rw [Hpl.out]; exact hlt
      obtain ⟨g, rfl, hc⟩ : ∃ g, ad = some ⟨g, 0, none⟩ ∧ w5.cell? ⟨g, j, none⟩ = some (.int .i64 (ps.getD j 0)) := by
        rcases hl with ⟨h, _⟩ | ⟨g, h1, _, h2⟩
        · rw [h] at hlen; simp at hlen
        · exact ⟨g, h1, ints_cell h2 hlen⟩
      have hpj := Hpi.out j hlt
      have hcd : w5.cell? ⟨db, (ps.getD j 0).toNat, none⟩ = some (.int .i64 ((depths L).getD (ps.getD j 0).toNat 0)) := hs5.cd _ (by omega)
      have Hst : Hid (deepest (depths L) (ps.take (j + 1)) = max (deepest (depths L) (ps.take j)) ((depths L).getD (ps.getD j 0).toNat 0)) := hid (by
        rw [List.take_succ_eq_append_getElem hlen]
        simp only [deepest, List.foldl_append, List.foldl_cons, List.foldl_nil]
        rw [show ps.getD j 0 = ps[j] from by simp [List.getD, List.getElem?_eq_getElem hlen]])
      clear hl
      generalize ps.getD j 0 = p at *
      generalize (depths L).getD p.toNat 0 = dp at *
      have hj64 : (j : Int) ≤ 3 := by omega
      go_wp2_with fail
      go_round
      case rel => exact ⟨j + 1, by omega, by go_num, by rw [Hst.out, Int.max_def]; congr 1; split <;> split <;> omega⟩
      case measure => simp [intOf]; omega
    · obtain rfl : j = q := by omega
      have Htk : Hid (ps.take j = ps) := hid (List.take_of_length_le (by rw [Hpl.out]; omega))
      rw [Htk.out]
      clear hj hlt hl
      go_wp2_with fail
      have hP0 : PW w5 b lb db mb m (.slice (some ⟨lb, 0, none⟩) (L.length + 1) lc) (.slice (some ⟨db, 0, none⟩) (L.length + 1) dc) (.slice (some ⟨lb, 0, none⟩) (L.length + 1) lc) (L.length + 1) (cellsOf (zeroT :: L))
          (.slice (some ⟨db, 0, none⟩) (L.length + 1) dc) (L.length + 1) (ints (depths L)) w5 := pw_start (fragIn_later Hfr.out hbw5) Hok.out
      have hB5 : w.heap.size < w5.heap.size := (Array.getElem?_eq_some_iff.1 hbox5).1
      have hdd := deepest_range (L := L) ps
      generalize hddd : deepest (depths L) ps = dd at *
      have Hdd := hid hddd
      clear hddd
      have hL : L.length ≤ 1048576 := by omega
      have hBn : w.heap.size ≠ b ∧ w.heap.size ≠ lb ∧ w.heap.size ≠ db := ⟨by have := Hok.out; have := hs1lt.1; omega, by have := hs1lt.2.1; omega, by have := hs1lt.2.2; omega⟩
      refine region15 (t := ⟨k, s, n, a, b', c⟩) (by kernel_rfl) (by kernel_rfl) (by simp) rfl rfl rfl hP0 hbox5 hBn (by omega) (by omega) (by omega) (by omega) ?_
      intro a' X g1 k1 g2 k2 z1 z2 z3 hX
      rw [act_lit z1 z2 z3]
      clear z1 z2 z3
      simp only [patch, Nat.reduceAdd, Nat.reduceLeDiff, and_self, and_true, and_false, if_true, if_false]
      generalize a'.eval (.tmp 56) = y56; generalize a'.eval (.tmp 57) = y57; generalize a'.eval (.tmp 58) = y58; generalize a'.eval (.tmp 59) = y59; generalize a'.eval (.tmp 60) = y60; generalize a'.eval (.tmp 61) = y61; generalize a'.eval (.tmp 62) = y62
      generalize a'.eval (.tmp 63) = y63; generalize a'.eval (.tmp 64) = y64; generalize a'.eval (.tmp 65) = y65; generalize a'.eval (.tmp 66) = y66; generalize a'.eval (.tmp 67) = y67; generalize a'.eval (.tmp 68) = y68; generalize a'.eval (.tmp 69) = y69
      generalize a'.eval (.tmp 70) = y70; generalize a'.eval (.tmp 71) = y71; generalize a'.eval (.tmp 72) = y72; generalize a'.eval (.tmp 73) = y73; generalize a'.eval (.tmp 74) = y74; generalize a'.eval (.tmp 75) = y75; generalize a'.eval (.tmp 76) = y76
      have hboxX : X.heap[w.heap.size]? = some (.cells (T.cells ⟨k, s, n, a, b', c⟩).toArray 47 (0, 0)) := (hX.old _ hB5 hBn.1 hBn.2.1 hBn.2.2).trans hbox5
      have hmX : X.heap[mb]? = some (.map es ck) := by
        obtain ⟨p1, p2, p3, p4, p5, p6⟩ := Hok.out.apart
        rw [hX.old mb (by have := hbw5.size; omega) (Ne.symm p3) (Ne.symm p5) (Ne.symm p6), hbw5.block mb hmlt]
        exact Hfr.out mb _ (by simp [stoFrag, Ne.symm p3, Ne.symm p5, Ne.symm p6])
      have hmu := mapUpdate_T ⟨k, s, n, a, b', c⟩ ((L.length : Int) + 1) X.drew hmX Hok.out.names Hi.out
      have q0 : X.cell? ⟨w.heap.size, 0, none⟩ = some (.int .i64 k) := by rw [cell_of_heap hboxX]; rfl
      have q1 : X.cell? ⟨w.heap.size, 1, none⟩ = some (.string s) := by rw [cell_of_heap hboxX]; rfl
      have q2 : X.cell? ⟨w.heap.size, 2, none⟩ = some (.int .u64 n) := by rw [cell_of_heap hboxX]; rfl
      have q3 : X.cell? ⟨w.heap.size, 3, none⟩ = some (.int .i64 a) := by rw [cell_of_heap hboxX]; rfl
      have q4 : X.cell? ⟨w.heap.size, 4, none⟩ = some (.int .i64 b') := by rw [cell_of_heap hboxX]; rfl
      have q5 : X.cell? ⟨w.heap.size, 5, none⟩ = some (.int .i64 c) := by rw [cell_of_heap hboxX]; rfl
      have qm : X.cell? ⟨b, 2, none⟩ = some (.map (some mb)) := by rw [cell_of_heap hX.hdr]; rfl
      simp only [T.val] at hmu
      have HX := hid hX
      clear hX hboxX hmX hP0 hbox5
      go_wp2_with fail
      go_still_tail 6, (by kernel_rfl)
      change wpList _ _ _ _ _ X.drew
      go_wp2_with fail
      go_ret2
      refine ⟨rfl, ?_⟩
      have hfin := put_end (t := ⟨k, s, n, a, b', c⟩) Hfr.out Hok.out hbw5 HX.out Hm.out Hi.out hfull' (by rw [Hps.out]; exact Hdd.out)
      exact hfin

/-- PUT: what it answers, and what the store then is. -/
theorem put_calls {W w : World} {Rs : List Res} {b : Nat} {L : List T} {m : Int} (k : Int) (s : ByteArray) (n a b' c : Int) (h : Hd W w (Sto b L m :: Rs)) :
    Calls Try.prog 24 #[.pointer (some ⟨b, 0, none⟩), T.val ⟨k, s, n, a, b', c⟩] w fun e w' =>
      e = .returned (.tuple #[.int .i64 (put m L ⟨k, s, n, a, b', c⟩).1, .int .i64 (put m L ⟨k, s, n, a, b', c⟩).2.1]) ∧ Hd W w' (Sto b (put m L ⟨k, s, n, a, b', c⟩).2.2 m :: Rs) := by
  obtain ⟨lb, db, mb, lc, dc, hat⟩ := h.sto
  by_cases hm : T.may L.length ⟨k, s, n, a, b', c⟩
  case neg =>
    have e : put m L ⟨k, s, n, a, b', c⟩ = (0, 1, L) := by unfold put; rw [if_neg hm]
    rw [e]
    exact (put_no k s n a b' c hat hm).mono fun _ _ ⟨h1, h2⟩ => ⟨h1, h.still h2⟩
  cases hi : find ⟨k, s, n, a, b', c⟩ L with
  | some i =>
    have e : put m L ⟨k, s, n, a, b', c⟩ = ((i : Int) + 1, 0, L) := by unfold put; rw [if_pos hm, hi]
    rw [e]
    exact (put_is k s n a b' c hat hm hi).mono fun _ _ ⟨h1, h2⟩ => ⟨h1, h.still h2⟩
  | none =>
    by_cases hfull : m ≤ L.length
    · have e : put m L ⟨k, s, n, a, b', c⟩ = (0, 4, L) := by unfold put; rw [if_pos hm, hi]; simp [hfull]
      rw [e]
      exact (put_full k s n a b' c hat hm hi hfull).mono fun _ _ ⟨h1, h2⟩ => ⟨h1, h.still h2⟩
    · have e : put m L ⟨k, s, n, a, b', c⟩ = ((L.length : Int) + 1, 0, L ++ [⟨k, s, n, a, b', c⟩]) := by unfold put; rw [if_pos hm, hi]; simp [hfull]
      rw [e]
      obtain ⟨f, ⟨lb, db, mb, lc, dc, ck, lcur, dcur, es, rfl, hok⟩, hf, _, hclose⟩ := h.open
      refine (put_new k s n a b' c hf hok hm hi (by omega)).mono fun _ w' ⟨h1, g, hg, hgi, hgn, g1, g2, g3, g4, g5⟩ => ⟨h1, ?_⟩
      exact hclose w' _ g hg hgi hgn g1 g2 g3 g4 g5
end Go.Proofs.Ytpcfmafokkffgaa
namespace Go.Proofs.Ytpcfmafokkffgaa
open Go.RowKit

/-- So many ints lie there. -/
def IntsAt (w : World) (a : Option Addr) (xs : List Int) : Prop :=
  xs = [] ∨ ∃ g o, a = some ⟨g, o, none⟩ ∧ ∀ j, j < xs.length → w.cell? ⟨g, o + j, none⟩ = some (.int .i64 (xs.getD j 0))

/-- A term with a text of at most 1100 bytes. -/
def T.cut (t : T) : T := { t with s := if t.s.size ≤ 1100 then t.s else t.s.extract 0 1100 }

end Go.Proofs.Ytpcfmafokkffgaa
namespace Go.Proofs.Ytpcfmafokkffgaa
open Go.RowKit

end Go.Proofs.Ytpcfmafokkffgaa
namespace Go.Proofs.Ytpcfmafokkffgaa
open Go.RowKit Go.ChangeShapes Go.WideShapes

/-- One block of the call's own. -/
def Blk (k : Nat) (o : Obj) : Res := fun f => f = fun j => if j = k then some o else none

theorem Hd.box {W w : World} {Rs : List Res} (h : Hd W w Rs) (o : Obj) : Hd W (w.alloc o) (Blk w.heap.size o :: Rs) := by
  refine h.add ((Below.refl _ _).alloc (Nat.le_refl _) _) _ rfl (fun k o' hk => ?_) (fun k hk => ?_)
  · split at hk
    · rename_i e; subst e; rw [heap_at rfl]; exact hk
    · cases hk
  · split at hk
    · omega
    · exact absurd rfl hk

theorem Hd.blk {W w : World} {Rs : List Res} {k : Nat} {o : Obj} (h : Hd W w (Blk k o :: Rs)) : w.heap[k]? = some o := by
  obtain ⟨f, hf, hi, _⟩ := h.open
  exact hi k o (by rw [hf]; simp)

/-- So many terms lie there. -/
def TermsIn (w : World) (a : Option Addr) (ts : List T) : Prop :=
  ∀ (i : Nat) (t : T), ts[i]? = some t → ∃ g o, a = some ⟨g, o, none⟩ ∧ t.s.size ≤ maxLen ∧ ∀ (j : Nat) (v : Value), t.cells[j]? = some v → w.cell? ⟨g, o + i * 6 + j, none⟩ = some v

section
variable {H : Type} {enc : TypeId × Value → H} {w : World} {base : Nat} {spare : Nat → Bool} {held : Bool}

end

end Go.Proofs.Ytpcfmafokkffgaa
namespace Go.Proofs.Ytpcfmafokkffgaa
open Go.RowKit

def rFrag (b : Nat) (v : Value) (m : Int) (row : Option (Nat × Array Value)) : Frag := fun k =>
  if k = b then some (.cells #[v, .int .i64 m] 131 (0, 0)) else
  match row with
  | some (g, cur) => if k = g then some (.cells cur 114 (0, 0)) else none
  | none => none

structure RGood (L : List T) (m : Int) : Prop where
  good : Good L
  m0 : 0 ≤ m
  m1 : m ≤ 1048576
  len : (L.length : Int) ≤ m

def RSto (b : Nat) (L : List T) (m : Int) : Res := fun f => RGood L m ∧
  ((L = [] ∧ f = rFrag b (.slice none 0 0) m none) ∨
   ∃ g cap cur, b ≠ g ∧ f = rFrag b (.slice (some ⟨g, 0, none⟩) L.length cap) m (some (g, cur)) ∧ cur.size = cap * 6 ∧ L.length ≤ cap ∧ cap ≤ maxLen ∧ cur.toList.take (L.length * 6) = cellsOf L)

/-- What the walk reads of it. -/
structure RStoAt (w : World) (b : Nat) (L : List T) (m : Int) (a : Option Addr) (cap : Nat) : Prop where
  ok : RGood L m
  c0 : w.cell? ⟨b, 0, none⟩ = some (.slice a L.length cap)
  c1 : w.cell? ⟨b, 1, none⟩ = some (.int .i64 m)
  fz : ∀ j, w.frozen? ⟨b, j, none⟩ = false
  cl : ∀ (i : Nat) (t : T), L[i]? = some t → ∃ g, a = some ⟨g, 0, none⟩ ∧ g < w.heap.size ∧ ∀ j v, t.cells[j]? = some v → w.cell? ⟨g, i * 6 + j, none⟩ = some v
  lt : b < w.heap.size

end Go.Proofs.Ytpcfmafokkffgaa
namespace Go.Proofs.Ytpcfmafokkffgaa
open Go.RowKit

/-- What May asks first. -/
abbrev RBad (k : Int) (s : ByteArray) (n : Int) : Prop := k < 1 ∨ 11 < k ∨ (k ≠ 1 ∧ s ≠ ⟨#[]⟩) ∨ (k ≠ 2 ∧ k ≠ 9 ∧ k ≠ 10 ∧ n ≠ 0) ∨ 1000 < (s.size : Int)

/-- What May asks of one part. -/
def ROk (len q : Nat) (l : List Int) (r : Nat) : Prop := (r < q → 1 ≤ l.getD r 0 ∧ l.getD r 0 ≤ len) ∧ (q ≤ r → l.getD r 0 = 0)


instance (len q : Nat) (l : List Int) (r : Nat) : Decidable (ROk len q l r) := by unfold ROk; exact inferInstance

end Go.Proofs.Ytpcfmafokkffgaa
namespace Go.Proofs.Ytpcfmafokkffgaa
open Go.RowKit

end Go.Proofs.Ytpcfmafokkffgaa
namespace Go.Proofs.Ytpcfmafokkffgaa
open Go.RowKit

/-- What a put of a new term leaves. -/
def RPutPost (b : Nat) (L : List T) (m : Int) (t : T) (f : Frag) (w w' : World) : Prop :=
  ∃ g : Frag, RSto b (L ++ [t]) m g ∧ FragIn g w' ∧ (∀ k, g k ≠ none → f k ≠ none ∨ w.heap.size ≤ k) ∧ w'.os = w.os ∧ w'.tape = w.tape ∧ w'.output = w.output ∧ w.heap.size ≤ w'.heap.size ∧ (∀ k, k < w.heap.size → f k = none → w'.heap[k]? = w.heap[k]?)

end Go.Proofs.Ytpcfmafokkffgaa
namespace Go.Proofs.Ytpcfmafokkffgaa

/-- i is the name of t. -/
structure At (L : List T) (i : Int) (t : T) : Prop where
  lo : 1 ≤ i
  hi : i ≤ L.length
  is : L[(i - 1).toNat]? = some t

/-- L' is L and more. -/
def Ext (L L' : List T) : Prop := ∃ M, L' = L ++ M

theorem Ext.refl (L : List T) : Ext L L := ⟨[], by simp⟩
theorem Ext.trans {A B C : List T} (h : Ext A B) (k : Ext B C) : Ext A C := by
  obtain ⟨M, rfl⟩ := h; obtain ⟨N, rfl⟩ := k; exact ⟨M ++ N, by simp⟩
theorem Ext.len {A B : List T} (h : Ext A B) : A.length ≤ B.length := by
  obtain ⟨M, rfl⟩ := h; simp

theorem At.ext {L L' : List T} {i : Int} {t : T} (h : At L i t) (e : Ext L L') : At L' i t := by
  obtain ⟨M, rfl⟩ := e
  refine ⟨h.lo, by have := h.hi; simp; omega, ?_⟩
  rw [List.getElem?_append_left (by have := h.hi; have := h.lo; omega)]
  exact h.is
theorem At.same {L : List T} {i : Int} {t u : T} (h : At L i t) (k : At L i u) : t = u := Option.some.inj (h.is.symm.trans k.is)
theorem At.name {L : List T} {i j : Int} {t : T} (g : Good L) (h : At L i t) (k : At L j t) : i = j := by
  have := g.nodup _ _ t h.is k.is
  have := h.lo; have := k.lo; omega
theorem At.may {L : List T} {i : Int} {t : T} (g : Good L) (h : At L i t) : t.may L.length :=
  T.may_mono (g.may _ _ h.is) (by have := h.hi; have := h.lo; omega)
theorem At.getT {L : List T} {i : Int} {t : T} (h : At L i t) : getT L i = t ∧ getB L i = true := by
  simp only [Go.Proofs.Ytpcfmafokkffgaa.getT, getB, get, if_pos h.lo, h.is]
  exact ⟨rfl, rfl⟩
theorem at_of {L : List T} {i : Int} (h1 : 1 ≤ i) (h2 : i ≤ L.length) : ∃ t, At L i t :=
  ⟨L[(i - 1).toNat]'(by omega), h1, h2, List.getElem?_eq_getElem (by omega)⟩
theorem at_getT {L : List T} {i : Int} (h1 : 1 ≤ i) (h2 : i ≤ L.length) : At L i (getT L i) := by
  obtain ⟨t, h⟩ := at_of h1 h2
  rw [h.getT.1]; exact h

theorem find_at {t : T} {L : List T} {i : Nat} (h : find t L = some i) : At L ((i : Int) + 1) t :=
  ⟨by omega, by have := find_lt h; omega, by rw [show ((i : Int) + 1 - 1).toNat = i by omega]; exact find_some h⟩

/-- What a put leaves. -/
theorem put_ext (m : Int) (L : List T) (t : T) : Ext L (put m L t).2.2 := by
  unfold put
  split
  · cases find t L with
    | some i => exact Ext.refl L
    | none => simp only []; split; exact Ext.refl L; exact ⟨[t], rfl⟩
  · exact Ext.refl L

/-- A put that finds room. -/
theorem put_ok {m : Int} {L : List T} {t : T} (g : Good L) (hm : t.may L.length) (hr : (L.length : Int) < m) :
    ∃ i L', put m L t = (i, 0, L') ∧ At L' i t ∧ Ext L L' ∧ Good L' ∧ L'.length ≤ L.length + 1 := by
  cases hf : find t L with
  | some i => exact ⟨i + 1, L, by simp [put, hm, hf], find_at hf, Ext.refl L, g, by omega⟩
  | none =>
    have hp : put m L t = ((L.length : Int) + 1, 0, L ++ [t]) := by simp only [put, hm, if_true, hf]; rw [if_neg (by omega)]
    refine ⟨L.length + 1, L ++ [t], hp, ⟨by omega, by simp, by simp⟩, ⟨[t], rfl⟩, ?_, by simp⟩
    have := Good.put m t g
    rwa [hp] at this

theorem at_snoc (L : List T) (t : T) : At (L ++ [t]) ((L.length : Int) + 1) t := ⟨by omega, by simp, by simp⟩

/-- The terms that the layers make. -/
def txtT (s : ByteArray) : T := ⟨1, s, 0, 0, 0, 0⟩
def nonT (n : Int) : T := ⟨2, ⟨#[]⟩, n, 0, 0, 0⟩
def pubT (a : Int) : T := ⟨3, ⟨#[]⟩, 0, a, 0, 0⟩
def shaT (a b : Int) : T := ⟨4, ⟨#[]⟩, 0, a, b, 0⟩
def kpuT (a : Int) : T := ⟨5, ⟨#[]⟩, 0, a, 0, 0⟩
def boxT (a b : Int) : T := ⟨6, ⟨#[]⟩, 0, a, b, 0⟩
def kemT (a b : Int) : T := ⟨7, ⟨#[]⟩, 0, a, b, 0⟩
def hasT (a b : Int) : T := ⟨8, ⟨#[]⟩, 0, a, b, 0⟩
def keyT (a n : Int) : T := ⟨9, ⟨#[]⟩, n, a, 0, 0⟩
def seaT (a n b c : Int) : T := ⟨10, ⟨#[]⟩, n, a, b, c⟩
def paiT (a b : Int) : T := ⟨11, ⟨#[]⟩, 0, a, b, 0⟩

section
variable {len a b c n : Int}
theorem may_txt (s : ByteArray) (h : s.size ≤ 1000) : (txtT s).may len := by simp [txtT, T.may, T.only, many, T.parts, h]
theorem may_key : (keyT a n).may len ↔ 1 ≤ a ∧ a ≤ len := by
  have : (⟨#[]⟩ : ByteArray).size ≤ 1000 := by decide
  simp [keyT, T.may, T.only, many, T.parts, this]
theorem may_sea : (seaT a n b c).may len ↔ (1 ≤ a ∧ a ≤ len) ∧ (1 ≤ b ∧ b ≤ len) ∧ (1 ≤ c ∧ c ≤ len) := by
  have : (⟨#[]⟩ : ByteArray).size ≤ 1000 := by decide
  simp [seaT, T.may, T.only, many, T.parts, this]
end

/-- The parts of a term that is there are there ahead of it. -/
theorem At.part {L : List T} {i p : Int} {t : T} (g : Good L) (h : At L i t) (hp : p ∈ t.parts) : 1 ≤ p ∧ p < i := by
  have := (g.may _ _ h.is).2.2.2.2.2 p hp
  have := h.lo
  omega
end Go.Proofs.Ytpcfmafokkffgaa
namespace Go.Proofs.Ytpcfmafokkffgaa
open Go.RowKit

end Go.Proofs.Ytpcfmafokkffgaa
namespace Go.Proofs.Ytpcfmafokkffgaa
open Go.RowKit

theorem put_len (m : Int) (L : List T) (t : T) : (put m L t).2.2.length ≤ L.length + 1 := by
  unfold put
  split
  · cases find t L with
    | some i => simp
    | none => simp only []; split <;> simp
  · simp

end Go.Proofs.Ytpcfmafokkffgaa
namespace Go.Proofs.Ytpcfmafokkffgaa
open Go.RowKit

/-- x is a name. -/
structure In (L : List T) (x : Int) : Prop where
  lo : 1 ≤ x
  hi : x ≤ L.length
/-- A store of at most N terms. -/
structure Room (W w : World) (b : Nat) (L : List T) (m : Int) (N : Nat) (Rs : List Res) : Prop where
  hd : Hd W w (Sto b L m :: Rs)
  good : Good L
  len : L.length ≤ N

/-- What a call that names a term leaves. -/
def Named (W : World) (b : Nat) (L : List T) (m : Int) (N : Nat) (Rs : List Res) (t : T) (e : Ending) (w' : World) : Prop :=
  ∃ p L', e = .returned (.tuple #[.int .i64 p, .int .i64 0]) ∧ At L' p t ∧ Ext L L' ∧ Room W w' b L' m (N + 1) Rs

/-- Get of what is there. -/
theorem get_at {W w : World} {b : Nat} {L : List T} {m : Int} {Rs : List Res} {x : Int} {t : T} (h : Hd W w (Sto b L m :: Rs)) (hx : At L x t) :
    Calls Try.prog 49 #[.pointer (some ⟨b, 0, none⟩), .int .i64 x] w fun e w' => e = .returned (.tuple #[.agg #[.int .i64 t.k, .string t.s, .int .u64 t.n, .int .i64 t.a, .int .i64 t.b, .int .i64 t.c], .bool true]) ∧ Below w.heap.size w w' := by
  obtain ⟨lb, db, mb, lc, dc, hs⟩ := h.sto
  have := get_calls x hs
  rw [hx.getT.1, hx.getT.2] at this
  exact this

/-- A call that changes nothing and tells a known name. -/
def Known (W : World) (b : Nat) (L : List T) (m : Int) (N : Nat) (Rs : List Res) (p : Int) (e : Ending) (w' : World) : Prop :=
  e = .returned (.tuple #[.int .i64 p, .int .i64 0]) ∧ Room W w' b L m N Rs

theorem mod_range {d : Int} (n : Int) (h : 1 ≤ d) : 0 ≤ n % d ∧ n % d < d := ⟨Int.emod_nonneg n (by omega), Int.emod_lt_of_pos n (by omega)⟩
end Go.Proofs.Ytpcfmafokkffgaa
namespace Go.Proofs.Ytpcfmafokkffgaa
open Go.RowKit

theorem Hd.al {W w : World} {Rs : List Res} {o : Obj} (h : Hd W w Rs) : Hd W (w.alloc o) Rs := h.still ((Below.refl _ _).alloc (Nat.le_refl _) _)
theorem Hd.dr {W w : World} {Rs : List Res} (h : Hd W w Rs) : Hd W w.drew Rs := h.still (Below.refl _ _).drew

/-- A variable of the call's own is kept behind the first thing. -/
theorem Hd.bx {W w : World} {A : Res} {Rs : List Res} {o : Obj} (h : Hd W w (A :: Rs)) : Hd W (w.alloc o) (A :: Blk w.heap.size o :: Rs) := (h.box o).swap
theorem Hd.bxk {W w : World} {A : Res} {Rs : List Res} {o : Obj} (k : Nat) (hk : w.heap.size = k) (h : Hd W w (A :: Rs)) : Hd W (w.alloc o) (A :: Blk k o :: Rs) := by subst hk; exact h.bx
theorem Hd.un2 {W w : World} {A B : Res} {Rs : List Res} (h : Hd W w (A :: B :: Rs)) : Hd W w (A :: Rs) := h.swap.drop

/-- A store into a block of the call's own. -/
theorem Hd.set {W w : World} {Rs : List Res} {k : Nat} {cs : Array Value} {T : TypeId} (j : Nat) (v : Value) (h : Hd W w (Blk k (.cells cs T (0, 0)) :: Rs)) : Hd W (w.setCell ⟨k, j, none⟩ v) (Blk k (.cells (cs.setIfInBounds j v) T (0, 0)) :: Rs) := by
  have hb := h.blk
  obtain ⟨f, hR, hf, hlt, hshut⟩ := h.open
  have hRf : f = fun i => if i = k then some (Obj.cells cs T (0, 0)) else none := hR
  subst hRf
  refine hshut _ _ (fun i => if i = k then some (.cells (cs.setIfInBounds j v) T (0, 0)) else none) rfl (fun i o hi => ?_) (fun i hi => ?_) rfl rfl rfl (by simp) (fun i hi hi2 => ?_)
  · dsimp only at hi
    split at hi
    · rename_i e; subst e
      rw [heap_setCell_same _ _ _ _ _ _ hb]; exact hi
    · cases hi
  · split at hi
    · rename_i e; subst e; exact .inl (by simp)
    · exact absurd rfl hi
  · refine heap_setCell_other _ _ _ _ fun e => ?_
    have : i = k := e
    subst this
    simp at hi2

section
variable {W w : World} {Rs : List Res} {b : Nat} {L : List T} {m : Int}

theorem get_c (x : Int) (h : Hd W w (Sto b L m :: Rs)) :
    Calls Try.prog 49 #[.pointer (some ⟨b, 0, none⟩), .int .i64 x] w fun e w' => e = .returned (.tuple #[T.val (getT L x), .bool (getB L x)]) ∧ Hd W w' (Sto b L m :: Rs) := by
  obtain ⟨lb, db, mb, lc, dc, hs⟩ := h.sto
  exact (get_calls x hs).mono fun e w' ⟨h1, h2⟩ => ⟨h1, h.still h2⟩


/-- A put whose answer has names. -/
theorem put_c (k : Int) (s : ByteArray) (n a b' c : Int) {r1 r2 : Int} {L2 : List T} (hq : Hid (put m L ⟨k, s, n, a, b', c⟩ = (r1, r2, L2))) (h : Hd W w (Sto b L m :: Rs)) :
    Calls Try.prog 24 #[.pointer (some ⟨b, 0, none⟩), .agg #[.int .i64 k, .string s, .int .u64 n, .int .i64 a, .int .i64 b', .int .i64 c]] w fun e w' => e = .returned (.tuple #[.int .i64 r1, .int .i64 r2]) ∧ Hd W w' (Sto b L2 m :: Rs) := by
  have := put_calls k s n a b' c h
  rw [hq.out] at this
  exact this

end
end Go.Proofs.Ytpcfmafokkffgaa
namespace Go.Proofs.Ytpcfmafokkffgaa

/-- What is wrapped. -/
def wrap4 (m : Int) (L : List T) (p d : Int) : Int × Int × Int × List T :=
  if (getT L p).k = 5 ∧ getB L d = true then
    if (put m L (boxT (getT L p).a d)).2.1 = 0 then
      if (put m (put m L (boxT (getT L p).a d)).2.2 (kemT (getT L p).a d)).2.1 = 0 then
        ((put m L (boxT (getT L p).a d)).1, (put m (put m L (boxT (getT L p).a d)).2.2 (kemT (getT L p).a d)).1, 0, (put m (put m L (boxT (getT L p).a d)).2.2 (kemT (getT L p).a d)).2.2)
      else (0, 0, (put m (put m L (boxT (getT L p).a d)).2.2 (kemT (getT L p).a d)).2.1, (put m (put m L (boxT (getT L p).a d)).2.2 (kemT (getT L p).a d)).2.2)
    else (0, 0, (put m L (boxT (getT L p).a d)).2.1, (put m L (boxT (getT L p).a d)).2.2)
  else (0, 0, 1, L)

/-- What was wrapped, opened. -/
def open4 (m : Int) (L : List T) (s x : Int) : Int × Int × List T :=
  if getB L s = true ∧ getB L x = true then
    if (getT L x).k = 6 ∧ (getT L x).a = s then put m L (kemT s (getT L x).b) else (0, 10, L)
  else (0, 1, L)

/-- Both keys that come of a key and what is mixed in. -/
def mix6 (m : Int) (L : List T) (k i : Int) : Int × Int × Int × List T :=
  if (put m L (hasT k i)).2.1 = 0 then
    if (put m (put m L (hasT k i)).2.2 (keyT (put m L (hasT k i)).1 1)).2.1 = 0 then
      if (put m (put m (put m L (hasT k i)).2.2 (keyT (put m L (hasT k i)).1 1)).2.2 (keyT (put m L (hasT k i)).1 2)).2.1 = 0 then
        ((put m (put m L (hasT k i)).2.2 (keyT (put m L (hasT k i)).1 1)).1, (put m (put m (put m L (hasT k i)).2.2 (keyT (put m L (hasT k i)).1 1)).2.2 (keyT (put m L (hasT k i)).1 2)).1, 0,
          (put m (put m (put m L (hasT k i)).2.2 (keyT (put m L (hasT k i)).1 1)).2.2 (keyT (put m L (hasT k i)).1 2)).2.2)
      else (0, 0, (put m (put m (put m L (hasT k i)).2.2 (keyT (put m L (hasT k i)).1 1)).2.2 (keyT (put m L (hasT k i)).1 2)).2.1, (put m (put m (put m L (hasT k i)).2.2 (keyT (put m L (hasT k i)).1 1)).2.2 (keyT (put m L (hasT k i)).1 2)).2.2)
    else (0, 0, (put m (put m L (hasT k i)).2.2 (keyT (put m L (hasT k i)).1 1)).2.1, (put m (put m L (hasT k i)).2.2 (keyT (put m L (hasT k i)).1 1)).2.2)
  else (0, 0, (put m L (hasT k i)).2.1, (put m L (hasT k i)).2.2)

/-- Derived so often. -/
def chainN (m n : Int) : Nat → List T → Int → Int × Int × List T
  | 0, L, k => (k, 0, L)
  | r + 1, L, k => if (put m L (keyT k n)).2.1 = 0 then chainN m n r (put m L (keyT k n)).2.2 (put m L (keyT k n)).1 else (0, (put m L (keyT k n)).2.1, (put m L (keyT k n)).2.2)
def chain6 (m : Int) (L : List T) (k n times : Int) : Int × Int × List T :=
  if getB L k = true ∧ 0 ≤ times ∧ times ≤ 1000 then chainN m n times.toNat L k else (0, 1, L)

/-- What was sealed. -/
def open5 (L : List T) (k n b s : Int) : Int × Int :=
  if getB L k = true ∧ getB L b = true ∧ getB L s = true then
    if getT L s = seaT k n b (getT L s).c then ((getT L s).c, 0) else (0, 9)
  else (0, 1)
def text5 (m : Int) (L : List T) (k n b : Int) (s : ByteArray) : Int × Int × List T :=
  if getB L k = true ∧ getB L b = true then
    if (put m L (txtT s)).2.1 = 0 then put m (put m L (txtT s)).2.2 (seaT k n b (put m L (txtT s)).1) else (0, (put m L (txtT s)).2.1, (put m L (txtT s)).2.2)
  else (0, 1, L)
def read5 (L : List T) (k n b s : Int) : ByteArray × Int :=
  if (open5 L k n b s).2 = 0 then
    if (getT L (open5 L k n b s).1).k = 1 then ((getT L (open5 L k n b s).1).s, 0) else (⟨#[]⟩, 9)
  else (⟨#[]⟩, (open5 L k n b s).2)

/-- What a store of good terms holds of a seal. -/
theorem sea_iff {L : List T} {k n b s : Int} (g : Good L) : getT L s = seaT k n b (getT L s).c ↔ (getT L s).k = 10 ∧ (getT L s).a = k ∧ (getT L s).n = n ∧ (getT L s).b = b := by
  constructor
  · intro h
    rw [h]
    exact ⟨rfl, rfl, rfl, rfl⟩
  · rintro ⟨h1, h2, h3, h4⟩
    by_cases hs : 1 ≤ s ∧ s ≤ L.length
    · have ha := at_getT hs.1 hs.2
      have hm := (ha.may g).2.2.1
      generalize getT L s = t at *
      obtain ⟨tk, ts, tn, ta, tb, tc⟩ := t
      simp only at h1 h2 h3 h4
      subst h1 h2 h3 h4
      have := congrArg T.s hm
      simp only [T.only] at this
      rw [if_neg (by decide)] at this
      rw [this]; rfl
    · have hz : getT L s = zeroT := by
        unfold getT get
        split
        · rw [List.getElem?_eq_none (by omega)]; rfl
        · rfl
      rw [hz] at h1
      exact absurd h1 (by decide)
end Go.Proofs.Ytpcfmafokkffgaa
namespace Go.Proofs.Ytpcfmafokkffgaa
open Go.RowKit


set_option maxRecDepth 100000 in
set_option maxHeartbeats 1000000 in
theorem derive_calls {W w : World} {Rs : List Res} {b : Nat} {L : List T} {m : Int} (k n : Int) (h : Hd W w (Sto b L m :: Rs)) :
    Calls Try.prog 56 #[.pointer (some ⟨b, 0, none⟩), .int .i64 k, .int .u64 n] w fun e w' => e = .returned (.tuple #[.int .i64 (put m L (keyT k n)).1, .int .i64 (put m L (keyT k n)).2.1]) ∧ Hd W w' (Sto b (put m L (keyT k n)).2.2 m :: Rs) := by
  obtain ⟨r1, r2, L2, hq⟩ : ∃ r1 r2 L2, put m L (keyT k n) = (r1, r2, L2) := ⟨_, _, _, rfl⟩
  rw [hq]
  have Hq := hid hq
  have H := hid h
  clear hq h
  go_enter Try.func56, Try.ntmps56
  go_wp2_with fail
  refine (put_c 9 ⟨#[]⟩ n k 0 0 Hq (by first | exact H.out | exact H.out.al | exact H.out.al.al | exact H.out.al.al.al | exact H.out.al.al.al.al)).mono ?_
  rintro e w1 ⟨rfl, h1⟩
  replace H := hid h1
  clear h1
  go_wp2_with fail
  go_ret2
  exact ⟨rfl, H.out⟩


theorem derive_c {W w : World} {Rs : List Res} {b : Nat} {L : List T} {m : Int} (k n : Int) {r1 r2 : Int} {L2 : List T} (hq : Hid (put m L (keyT k n) = (r1, r2, L2))) (h : Hd W w (Sto b L m :: Rs)) :
    Calls Try.prog 56 #[.pointer (some ⟨b, 0, none⟩), .int .i64 k, .int .u64 n] w fun e w' => e = .returned (.tuple #[.int .i64 r1, .int .i64 r2]) ∧ Hd W w' (Sto b L2 m :: Rs) := by
  have := derive_calls k n h
  rw [hq.out] at this
  exact this

end Go.Proofs.Ytpcfmafokkffgaa
namespace Go.Proofs.Ytpcfmafokkffgaa
open Go.RowKit


end Go.Proofs.Ytpcfmafokkffgaa
namespace Go.Proofs.Ytpcfmafokkffgaa
open Go.RowKit

/-- Things in another order. -/
theorem Hd.perm {W w : World} {Rs Ss : List Res} (p : Rs.Perm Ss) : Hd W w Rs → Hd W w Ss := by
  have key : ∀ {Rs Ss : List Res}, Rs.Perm Ss → ∀ u, Lies w u Rs → Lies w u Ss := by
    intro Rs Ss p
    induction p with
    | nil => exact fun _ h => h
    | cons x _ ih => exact fun u h => Lies.cons_mono (fun v => ih v) h
    | swap x y l => exact fun u h => h.swap
    | trans _ _ ih1 ih2 => exact fun u h => ih2 u (ih1 u h)
  exact fun h => ⟨h.below, key p _ h.lies⟩

/-- What a call holds, with what its callee was given. -/
theorem Hd.join {W w w' : World} {Rs Ss : List Res} (h : Hd W w Rs) (k : Hd w w' Ss) : Hd W w' (Ss ++ Rs) := by
  refine ⟨h.below.trans (k.below.mono h.below.size), ?_⟩
  have key : ∀ (Ss : List Res) (u v : Nat → Prop), (∀ i, i < w.heap.size → v i) → (∀ i, u i → v i) → (∀ i, u i → i < W.heap.size ∨ w.heap.size ≤ i) → Lies w' v Ss → Lies w' u (Ss ++ Rs) := by
    intro Ss
    induction Ss with
    | nil =>
      intro u v _ _ h3 _
      exact (h.lies.grow h3).keep fun i _ hi => k.below.block i hi
    | cons S Ss ih =>
      intro u v h1 h2 h3 hl
      obtain ⟨f, hS, hf, hd, hr⟩ := hl
      refine ⟨f, hS, hf, fun i hi hu => hd i hi (h2 i hu), ih _ _ (fun i hi => .inl (h1 i hi)) (fun i hi => hi.imp (h2 i) id) (fun i hi => ?_) hr⟩
      rcases hi with hi | hi
      · exact h3 i hi
      · refine .inr (Nat.le_of_not_lt fun hlt => hd i hi (h1 i hlt))
  refine key Ss _ _ (fun i hi => hi) (fun i hi => Nat.lt_of_lt_of_le hi h.below.size) (fun i hi => .inl hi) k.lies

section
variable (ops : Array Oper) (need uses : Nat → List Nat)

def dstOf (i : Nat) : Option Nat := (ops[i]?).bind (·.dst)
/-- What the rule asks of the region's text. -/
def checkOps : Bool :=
  (List.range ops.size).all fun i =>
    (match ops[i]? with
      | some o => decide (o.guard = none) && (need i).all (fun d => o.after.any fun e => e.on == d && Region.binds .any e) && o.after.all (fun e => !Region.binds .any e || decide (e.on < i))
      | none => false) &&
    (need i).all (fun d => decide (d < i)) &&
    (uses i).all (fun k => k == i || (need i).any fun d => (uses d).contains k) &&
    (List.range ops.size).all fun j => i == j || dstOf ops i != dstOf ops j || dstOf ops i == none

variable {ops need uses}

theorem check_at (h : checkOps ops need uses = true) {i : Nat} {o : Oper} (ho : ops[i]? = some o) : o.guard = none ∧ (∀ d ∈ need i, ∃ e ∈ o.after, e.on = d ∧ Region.binds .any e = true) ∧ (∀ e ∈ o.after, Region.binds .any e = true → e.on < i) ∧ (∀ d ∈ need i, d < i) ∧
    (∀ k ∈ uses i, k = i ∨ ∃ d ∈ need i, k ∈ uses d) ∧ (∀ j < ops.size, ∀ t, dstOf ops i = some t → dstOf ops j = some t → i = j) := by
  have hlt : i < ops.size := (Array.getElem?_eq_some_iff.1 ho).1
  unfold checkOps at h
  rw [List.all_eq_true] at h
  have hi := h i (List.mem_range.2 hlt)
  rw [ho] at hi
  simp only [Bool.and_eq_true, decide_eq_true_eq, List.all_eq_true, Array.all_eq_true', Array.any_eq_true', beq_iff_eq, Bool.or_eq_true, Bool.not_eq_true', bne_iff_ne, List.any_eq_true, List.contains_iff_mem, List.mem_range] at hi
  obtain ⟨⟨⟨⟨⟨h1, h2⟩, h3⟩, h4⟩, h5⟩, h6⟩ := hi
  refine ⟨h1, fun d hd => ?_, fun e he hb => ?_, h4, fun k hk => ?_, fun j hj t h7 h8 => ?_⟩
  · obtain ⟨e, he, h7, h8⟩ := h2 d hd
    exact ⟨e, he, h7, h8⟩
  · rcases h3 e he with h7 | h7
    · rw [hb] at h7; cases h7
    · exact h7
  · rcases h5 k hk with h7 | ⟨d, hd, h7⟩
    · exact .inl h7
    · exact .inr ⟨d, hd, by simpa using h7⟩
  · rcases h6 j hj with (h9 | h9) | h9
    · exact h9
    · exact absurd (h7.trans h8.symm) h9
    · rw [h9] at h7; cases h7

theorem ready_need (h : checkOps ops need uses = true) {listed : Array Bool} {i : Nat} (hi : i ∈ Region.ready .any ops listed) {d : Nat} (hd : d ∈ need i) : listed.getD d false = true := by
  obtain ⟨_, o, ho, hall⟩ := mem_ready.1 hi
  obtain ⟨e, he, rfl, hb⟩ := (check_at h ho).2.1 d hd
  exact hall e he hb

theorem all_here (h : checkOps ops need uses = true) {listed : Array Bool} (hs : listed.size = ops.size) (hr : Region.ready .any ops listed = []) : ∀ i, i < ops.size → listed.getD i false = true := by
  intro i
  induction i using Nat.strongRecOn with
  | _ i ih =>
    intro hi
    refine Classical.byContradiction fun hne => ?_
    have h1 : listed.getD i true = false := by
      have hlt : i < listed.size := by omega
      simp only [Array.getD_eq_getD_getElem?, Array.getElem?_eq_getElem hlt, Option.getD_some] at hne ⊢
      simpa using hne
    have hmem : i ∈ Region.ready .any ops listed := mem_ready.2 ⟨h1, ops[i], Array.getElem?_eq_getElem hi, fun e he hb => by
      have := (check_at h (Array.getElem?_eq_getElem hi)).2.2.1 e he hb
      exact ih e.on this (by omega)⟩
    rw [hr] at hmem
    cases hmem

theorem here_set {listed : Array Bool} {i j : Nat} (h : (listed.setIfInBounds i true).getD j false = true) : j = i ∨ listed.getD j false = true := by
  by_cases e : i = j
  · exact .inl e.symm
  · right
    simpa [Array.getElem?_setIfInBounds_ne e] using h
theorem here_mono {listed : Array Bool} {i j : Nat} (h : listed.getD j false = true) : (listed.setIfInBounds i true).getD j false = true := by
  by_cases e : i = j
  · subst e
    have hlt : i < listed.size := by
      rcases Nat.lt_or_ge i listed.size with h' | h'
      · exact h'
      · simp [Array.getElem?_eq_none h'] at h
    simp [hlt]
  · simpa [Array.getElem?_setIfInBounds_ne e] using h

theorem none_here (n i : Nat) : (Array.replicate n false).getD i false = false := by
  simp only [Array.getD_eq_getD_getElem?, Array.getElem?_replicate]
  split <;> rfl

/-- Another block for i. -/
def upd (g : Nat → Nat) (i x : Nat) : Nat → Nat := fun j => if j = i then x else g j

theorem put_same {a : Act} {d : Nat} {v : Value} (h : d < a.tmps.size) : (a.put (some d) v).eval (.tmp d) = v := by
  simp [Act.put, Act.eval, h]
theorem put_ne {a : Act} {d : Option Nat} {t : Nat} {v : Value} (h : d ≠ some t) : (a.put d v).eval (.tmp t) = a.eval (.tmp t) := by
  cases d with
  | none => rfl
  | some d =>
    have hne : d ≠ t := fun e => h (by rw [e])
    simp [Act.put, Act.eval, Array.getElem?_setIfInBounds_ne hne]
theorem put_size (a : Act) (d : Option Nat) (v : Value) : (a.put d v).tmps.size = a.tmps.size := by
  cases d <;> simp [Act.put]
theorem put_defers (a : Act) (d : Option Nat) (v : Value) : (a.put d v).defers = a.defers := by
  cases d <;> rfl

/-- What holds on the way. -/
structure Way (ops : Array Oper) (uses : Nat → List Nat) (val : (Nat → Nat) → Nat → Value) (R : (Nat → Nat) → Nat → List Res) (W w0 : World) (Rs : List Res) (a0 : Act) (listed : Array Bool) (a : Act) (w : World) (g : Nat → Nat) : Prop where
  lsize : listed.size = ops.size
  size : a.tmps.size = a0.tmps.size
  defers : a.defers = a0.defers
  rest : ∀ t : Nat, (∀ i, dstOf ops i ≠ some t) → a.eval (.tmp t) = a0.eval (.tmp t)
  has : ∀ i d, listed.getD i false = true → dstOf ops i = some d → a.eval (.tmp d) = val g i
  closed : ∀ i, listed.getD i false = true → ∀ k ∈ uses i, listed.getD k false = true
  below : Below w0.heap.size w0 w
  hd : Hd W w (((List.range ops.size).filter fun i => listed.getD i false).flatMap (R g) ++ Rs)

theorem perm_insert {R R' : Nat → List Res} (p p' : Nat → Bool) (i : Nat) (hp : p i = false) (hp' : ∀ j, p' j = (p j || j == i)) (hR : ∀ j, p j = true → R' j = R j) : ∀ l : List Nat, l.Nodup → i ∈ l → (R' i ++ (l.filter p).flatMap R).Perm ((l.filter p').flatMap R')
  | [], _, h => by simp at h
  | x :: l, hn, h => by
    have hx := (List.nodup_cons.1 hn).1
    have hl := (List.nodup_cons.1 hn).2
    by_cases e : x = i
    · subst e
      have h1 : p' x = true := by rw [hp']; simp
      rw [List.filter_cons_of_neg (by simp [hp]), List.filter_cons_of_pos h1, List.flatMap_cons]
      refine List.Perm.append_left _ ?_
      have : ∀ l : List Nat, x ∉ l → (l.filter p).flatMap R = (l.filter p').flatMap R' := by
        intro l
        induction l with
        | nil => intro _; rfl
        | cons y l ih =>
          intro hy
          have hyx : y ≠ x := fun e => hy (by simp [e])
          have h2 : p' y = p y := by rw [hp']; simp [hyx]
          cases hpy : p y with
          | true => rw [List.filter_cons_of_pos hpy, List.filter_cons_of_pos (by rw [h2, hpy]), List.flatMap_cons, List.flatMap_cons, hR y hpy, ih (fun h => hy (by simp [h]))]
          | false => rw [List.filter_cons_of_neg (by simp [hpy]), List.filter_cons_of_neg (by simp [h2, hpy]), ih (fun h => hy (by simp [h]))]
      rw [this l hx]
    · have hi : i ∈ l := by
        rcases List.mem_cons.1 h with h | h
        · exact absurd h.symm e
        · exact h
      have ih := perm_insert p p' i hp hp' hR l hl hi
      have h2 : p' x = p x := by rw [hp']; simp [e]
      cases hpx : p x with
      | true =>
        rw [List.filter_cons_of_pos hpx, List.filter_cons_of_pos (by rw [h2, hpx]), List.flatMap_cons, List.flatMap_cons, hR x hpx]
        rw [← List.append_assoc]
        exact ((List.perm_append_comm.append_right _).trans (by rw [List.append_assoc])).trans (List.Perm.append_left _ ih)
      | false => rw [List.filter_cons_of_neg (by simp [hpx]), List.filter_cons_of_neg (by simp [h2, hpx])]; exact ih

/-- THE RULE. -/
theorem wp_region_made {P : Program} {Q : Exit → Act → World → Prop} {id : Nat} {a0 : Act} {w0 W : World} {Rs : List Res} (need uses : Nat → List Nat) (val : (Nat → Nat) → Nat → Value) (R : (Nat → Nat) → Nat → List Res)
    (hm : P.follows .mixedOrders = true) (hc : checkOps ops need uses = true) (hsz : ∀ i d, dstOf ops i = some d → d < a0.tmps.size)
    (hval : ∀ i g g', (∀ k ∈ uses i, g k = g' k) → val g i = val g' i ∧ R g i = R g' i) (h0 : Hd W w0 Rs)
    (step : ∀ i o, ops[i]? = some o → ∀ (a : Act) (w : World) (g : Nat → Nat), (∀ d ∈ need i, ∀ s, dstOf ops d = some s → a.eval (.tmp s) = val g d) → (∀ t : Nat, (∀ i, dstOf ops i ≠ some t) → a.eval (.tmp t) = a0.eval (.tmp t)) → Below w0.heap.size w0 w →
      ∀ K : Act → World → Prop, (∀ x v w', v = val (upd g i x) i ∨ o.dst = none → Below w.heap.size w w' → (∀ Ss, Hd W w Ss → Hd W w' (R (upd g i x) i ++ Ss)) → K (a.put o.dst v) w') → o.wp P a w K Q)
    (done : ∀ (a : Act) (w : World) (g : Nat → Nat), a.tmps.size = a0.tmps.size → a.defers = a0.defers → (∀ t : Nat, (∀ i, dstOf ops i ≠ some t) → a.eval (.tmp t) = a0.eval (.tmp t)) → (∀ i d, dstOf ops i = some d → a.eval (.tmp d) = val g i) → Below w0.heap.size w0 w →
      Hd W w ((List.range ops.size).flatMap (R g) ++ Rs) → Q .normal a w) : (Code.region id ops true).wp P Q a0 w0 := by
  refine wp_region_inv (fun a0 listed a w => a0 = a0 ∧ ∃ g, Way ops uses val R W w0 Rs a0 listed a w g) hm ?_ ?_ ?_
  · refine ⟨rfl, fun _ => 0, by simp, rfl, rfl, fun _ _ => rfl, fun i d h => ?_, fun i h => ?_, (Below.refl _ _).drew, ?_⟩
    · rw [none_here] at h; cases h
    · rw [none_here] at h; cases h
    · have : ((List.range ops.size).filter fun i => (Array.replicate ops.size false).getD i false) = [] := by
        rw [List.filter_eq_nil_iff]
        intro i _
        rw [none_here]; exact Bool.false_ne_true
      rw [this]
      exact h0.still (Below.refl _ _).drew
  · rintro listed a w ⟨_, g, hw⟩ i hi
    obtain ⟨hl, o, ho, hall⟩ := mem_ready.1 hi
    have hck := check_at hc ho
    have hlt : i < ops.size := (Array.getElem?_eq_some_iff.1 ho).1
    have hdi : dstOf ops i = o.dst := by simp [dstOf, ho]
    have hli : listed.getD i false = false := by
      have : i < listed.size := by rw [hw.lsize]; exact hlt
      simp only [Array.getD_eq_getD_getElem?, Array.getElem?_eq_getElem this, Option.getD_some] at hl ⊢
      exact hl
    refine wpOp_plain ho hck.1 ?_
    refine step i o ho a w g (fun d hd s hs => hw.has d s (ready_need hc hi hd) hs) hw.rest hw.below _ ?_
    intro x v w' hv hb hR
    have huse : ∀ j, listed.getD j false = true → ∀ k ∈ uses j, g k = upd g i x k := fun j hj k hk => by
      have := hw.closed j hj k hk
      have hne : k ≠ i := fun e => by rw [e, hli] at this; cases this
      simp [upd, hne]
    refine ⟨rfl, upd g i x, by simp [hw.lsize], (put_size _ _ _).trans hw.size, (put_defers _ _ _).trans hw.defers, fun t ht => ?_, fun j d hj hd => ?_, fun j hj k hk => ?_, hw.below.trans (hb.mono hw.below.size), ?_⟩
    · rw [put_ne (by rw [← hdi]; exact ht i)]
      exact hw.rest t ht
    · by_cases e : j = i
      · subst e
        rw [hdi] at hd
        rw [hd, put_same (by rw [hw.size]; exact hsz j d (hdi.trans hd))]
        rcases hv with hv | hv
        · exact hv
        · rw [hv] at hd; cases hd
      · have hlj := (here_set hj).resolve_left e
        have hjs : j < ops.size := by
          rcases Nat.lt_or_ge j ops.size with h | h
          · exact h
          · rw [← hw.lsize] at h; simp [Array.getElem?_eq_none h] at hlj
        rw [put_ne (fun e2 => e (hck.2.2.2.2.2 j hjs d (hdi.trans e2) hd).symm), hw.has j d hlj hd]
        exact (hval j _ _ (huse j hlj)).1
    · rcases here_set hj with rfl | hlj
      · rcases hck.2.2.2.2.1 k hk with rfl | ⟨d, hd, hkd⟩
        · exact hj
        · exact here_mono (hw.closed d (ready_need hc hi hd) k hkd)
      · exact here_mono (hw.closed j hlj k hk)
    · have h1 := hR _ hw.hd
      rw [← List.append_assoc] at h1
      refine Hd.perm (List.Perm.append_right _ ?_) h1
      refine perm_insert (R := R g) (R' := R (upd g i x)) (fun j => listed.getD j false) (fun j => (listed.setIfInBounds i true).getD j false) i hli (fun j => ?_) (fun j hj => (hval j _ _ (huse j hj)).2.symm) _ List.nodup_range (List.mem_range.2 hlt)
      by_cases e : j = i
      · subst e
        have : j < listed.size := by rw [hw.lsize]; exact hlt
        simp [this]
      · simp only [Array.getD_eq_getD_getElem?, Array.getElem?_setIfInBounds_ne (Ne.symm e)]
        simp [e]
  · rintro listed a w ⟨_, g, hw⟩ hr
    have hall := all_here hc hw.lsize hr
    refine done a w g hw.size hw.defers hw.rest (fun i d hd => hw.has i d (hall i ?_) hd) hw.below ?_
    · rcases Nat.lt_or_ge i ops.size with h | h
      · exact h
      · simp [dstOf, Array.getElem?_eq_none h] at hd
    · have := hw.hd
      rw [List.filter_eq_self.2 (fun i hi => hall i (List.mem_range.1 hi))] at this
      exact this

theorem core_at {core : List (Option Nat × Op)} (hc : ops.toList.map (fun o => (o.dst, o.op)) = core) {i : Nat} {o : Oper} (ho : ops[i]? = some o) : core[i]? = some (o.dst, o.op) := by
  rw [← hc, List.getElem?_map, Array.getElem?_toList, ho]; rfl
theorem dst_core {core : List (Option Nat × Op)} (hc : ops.toList.map (fun o => (o.dst, o.op)) = core) (i : Nat) : dstOf ops i = (core[i]?).bind (·.1) := by
  rw [← hc, List.getElem?_map, Array.getElem?_toList, dstOf]
  cases ops[i]? <;> rfl
end

/-- A frame of which some slots are written anew. -/
def patchG (S : Nat → Bool) (f : Nat → Value) : Nat → List Value → List Value
  | _, [] => []
  | i, v :: l => (bif S i then f i else v) :: patchG S f (i + 1) l

theorem patchG_get (S : Nat → Bool) (f : Nat → Value) : ∀ (l : List Value) (i j : Nat), (patchG S f i l)[j]? = (l[j]?).map fun v => bif S (i + j) then f (i + j) else v
  | [], i, j => by simp [patchG]
  | v :: l, i, 0 => by simp [patchG]
  | v :: l, i, j + 1 => by
    simp only [patchG, List.getElem?_cons_succ, patchG_get S f l (i + 1) j]
    rw [show i + 1 + j = i + (j + 1) from by omega]

theorem act_litG {a a0 : Act} (S : Nat → Bool) (hs : a.tmps.size = a0.tmps.size) (hd : a.defers = a0.defers) (hr : ∀ t : Nat, S t = false → a.eval (.tmp t) = a0.eval (.tmp t)) :
    a = { tmps := (patchG S (fun i => a.eval (.tmp i)) 0 a0.tmps.toList).toArray, defers := a0.defers } := by
  obtain ⟨t, d⟩ := a
  obtain ⟨t0, d0⟩ := a0
  dsimp only at hs hd
  subst hd
  congr 1
  apply Array.ext_getElem?
  intro i
  simp only [List.getElem?_toArray, patchG_get, Nat.zero_add, Array.getElem?_toList]
  by_cases h : i < t.size
  · have h3 : i < t0.size := by omega
    simp only [Array.getElem?_eq_getElem h, Array.getElem?_eq_getElem h3, Option.map_some, Option.some.injEq]
    cases hS : S i with
    | true => simp [Act.eval, h]
    | false =>
      have := hr i hS
      simpa [Act.eval, h, h3] using this
  · have h3 : ¬ i < t0.size := by omega
    simp [h, h3]
end Go.Proofs.Ytpcfmafokkffgaa
namespace Go.Proofs.Ytpcfmafokkffgaa
open Go.RowKit

theorem Hd.nthk {W w : World} {k : Nat} {o : Obj} : ∀ (i : Nat) {Rs : List Res}, Hd W w Rs → Rs[i]? = some (Blk k o) → w.heap[k]? = some o
  | 0, A :: Rs, h, e => by
    simp only [List.getElem?_cons_zero, Option.some.injEq] at e
    subst e
    exact h.blk
  | i + 1, A :: Rs, h, e => Hd.nthk i h.drop (by simpa using e)
  | _, [], _, e => by simp at e
theorem perm_front {R : Res} : ∀ (l : List Res) (i : Nat), l[i]? = some R → l.Perm (R :: l.eraseIdx i)
  | [], i, h => by simp at h
  | x :: l, 0, h => by
    simp only [List.getElem?_cons_zero, Option.some.injEq] at h
    subst h
    exact List.Perm.refl _
  | x :: l, i + 1, h => ((perm_front l i (by simpa using h)).cons x).trans (List.Perm.swap _ _ _)
theorem Hd.front {W w : World} {Rs : List Res} {R : Res} (i : Nat) (h : Hd W w Rs) (e : Rs[i]? = some R) : Hd W w (R :: Rs.eraseIdx i) := Hd.perm (perm_front Rs i e) h
theorem Hd.back {W w : World} {Rs : List Res} {R : Res} (i : Nat) (h : Hd W w (R :: Rs)) {Ss : List Res} (e : R :: Ss.eraseIdx i = R :: Rs) (hi : Ss[i]? = some R := by rfl) : Hd W w Ss := by
  rw [← e] at h
  exact Hd.perm (perm_front Ss i hi).symm h
theorem blks_ne {W w : World} {Rs : List Res} {a b : Nat} {o p : Obj} (h : Hd W w (Blk a o :: Blk b p :: Rs)) : ¬ a = b := by
  intro e
  subst e
  obtain ⟨_, f, hf, _, _, g, hg, _, hd, _⟩ := h
  have hf' : f = fun j => if j = a then some o else none := hf
  have hg' : g = fun j => if j = a then some p else none := hg
  subst hf' hg'
  exact hd a (by simp) (.inr (by simp))
theorem Hd.boxk {W w : World} {Rs : List Res} {o : Obj} (k : Nat) (hk : w.heap.size = k) (h : Hd W w Rs) : Hd W (w.alloc o) (Blk k o :: Rs) := by subst hk; exact h.box o
theorem evc (a : Act) (c : Value) : a.eval (.const c) = c := rfl
end Go.Proofs.Ytpcfmafokkffgaa
namespace Go.Proofs.Ytpcfmafokkffgaa
open Go.RowKit

def next15 (m : Int) (L : List T) (k e : Int) : (Int × Int) × Int × List T :=
  if e < 0 ∨ 1000 ≤ e then ((0, 0), 13, L)
  else if (put m L (keyT k 2)).2.1 = 0 then (((put m L (keyT k 2)).1, e + 1), 0, (put m L (keyT k 2)).2.2) else ((0, 0), (put m L (keyT k 2)).2.1, (put m L (keyT k 2)).2.2)

section
variable {W w : World} {Rs : List Res} {b : Nat} {L L2 : List T} {m r1 r2 : Int}

set_option maxRecDepth 100000 in
set_option maxHeartbeats 1000000 in
theorem seal15_calls (k e : Int) (hq : put m L (keyT k 1) = (r1, r2, L2)) (h : Hd W w (Sto b L m :: Rs)) :
    Calls Try.prog 21 #[.agg #[.int .i64 k, .int .i64 e], .pointer (some ⟨b, 0, none⟩)] w fun e w' => e = .returned (.tuple #[.int .i64 r1, .int .i64 r2]) ∧ Hd W w' (Sto b L2 m :: Rs) := by
  have Hq := hid hq
  have H := hid h
  clear hq h
  go_enter Try.func21, Try.ntmps21
  go_wp2_with fail
  refine (derive_c k 1 Hq (by first | exact H.out | exact H.out.al | exact H.out.al.al)).mono ?_
  rintro e w1 ⟨rfl, h1⟩
  replace H := hid h1
  clear h1
  go_wp2_with fail
  go_ret2
  exact ⟨rfl, H.out⟩

set_option maxRecDepth 100000 in
set_option maxHeartbeats 4000000 in
theorem next15_calls (k e : Int) {dk de : Int} (hq : next15 m L k e = ((dk, de), r2, L2)) (h : Hd W w (Sto b L m :: Rs)) :
    Calls Try.prog 22 #[.agg #[.int .i64 k, .int .i64 e], .pointer (some ⟨b, 0, none⟩)] w fun e' w' => e' = .returned (.tuple #[.agg #[.int .i64 dk, .int .i64 de], .int .i64 r2]) ∧ Hd W w' (Sto b L2 m :: Rs) := by
  have H := hid (((h.boxk (o := .cells #[.int .i64 k, .int .i64 e] 32 (0, 0)) w.heap.size rfl).boxk (o := .cells #[.int .i64 0, .int .i64 0] 32 (0, 0)) (w.heap.size + 1) (by simp)).front 2 rfl)
  clear h
  unfold next15 at hq
  by_cases he : e < 0 ∨ 1000 ≤ e
  · rw [if_pos he] at hq
    simp only [Prod.mk.injEq] at hq
    obtain ⟨⟨rfl, rfl⟩, rfl, rfl⟩ := hq
    rcases (show e < 0 ∨ (¬ e < 0 ∧ 1000 ≤ e) by omega) with he | ⟨he1, he⟩
    · have d1 : decide (e < 0) = true := by simpa using he
      clear he
      obtain ⟨wo, hwo⟩ : ∃ wo, (w.alloc (.cells #[.int .i64 k, .int .i64 e] 32 (0, 0))).alloc (.cells #[.int .i64 0, .int .i64 0] 32 (0, 0)) = wo := ⟨_, rfl⟩
      rw [hwo] at H
      have hk := Hd.nthk 2 H.out rfl
      have c0 := (cell_of_heap hk 0).trans (show _ = some (.int .i64 k) from rfl)
      have c1 := (cell_of_heap hk 1).trans (show _ = some (.int .i64 e) from rfl)
      have cs := (Array.getElem?_eq_some_iff.1 hk).1
      clear hk
      have hk := Hd.nthk 1 H.out rfl
      have q0 := (cell_of_heap hk 0).trans (show _ = some (.int .i64 0) from rfl)
      have q1 := (cell_of_heap hk 1).trans (show _ = some (.int .i64 0) from rfl)
      have qs := (Array.getElem?_eq_some_iff.1 hk).1
      have qf := frozen_of_heap hk
      clear hk
      go_enter Try.func22, Try.ntmps22
      go_wp2_with fail
      refine bodyPost_ret (v := .tuple #[.agg #[.int .i64 0, .int .i64 0], .int .i64 13]) (by simp [results, Try.results22, go_sem, q0, q1]) rfl ⟨rfl, ?_⟩
      exact ((((H.out.front 1 rfl).set 0 (.int .i64 0)).set 1 (.int .i64 0)).drop).un2
    · have d1 : decide (e < 0) = false := by simpa using he1
      have d2 : decide (1000 ≤ e) = true := by simp; omega
      clear he he1
      obtain ⟨wo, hwo⟩ : ∃ wo, (w.alloc (.cells #[.int .i64 k, .int .i64 e] 32 (0, 0))).alloc (.cells #[.int .i64 0, .int .i64 0] 32 (0, 0)) = wo := ⟨_, rfl⟩
      rw [hwo] at H
      have hk := Hd.nthk 2 H.out rfl
      have c0 := (cell_of_heap hk 0).trans (show _ = some (.int .i64 k) from rfl)
      have c1 := (cell_of_heap hk 1).trans (show _ = some (.int .i64 e) from rfl)
      have cs := (Array.getElem?_eq_some_iff.1 hk).1
      clear hk
      have hk := Hd.nthk 1 H.out rfl
      have q0 := (cell_of_heap hk 0).trans (show _ = some (.int .i64 0) from rfl)
      have q1 := (cell_of_heap hk 1).trans (show _ = some (.int .i64 0) from rfl)
      have qs := (Array.getElem?_eq_some_iff.1 hk).1
      have qf := frozen_of_heap hk
      clear hk
      go_enter Try.func22, Try.ntmps22
      go_wp2_with fail
      refine bodyPost_ret (v := .tuple #[.agg #[.int .i64 0, .int .i64 0], .int .i64 13]) (by simp [results, Try.results22, go_sem, q0, q1]) rfl ⟨rfl, ?_⟩
      exact ((((H.out.front 1 rfl).set 0 (.int .i64 0)).set 1 (.int .i64 0)).drop).un2
  · rw [if_neg he] at hq
    have d1 : decide (e < 0) = false := by simp; omega
    have d2 : decide (1000 ≤ e) = false := by simp; omega
    have z1 : 0 ≤ e := by omega
    have z2 : e ≤ 1000 := by omega
    obtain ⟨p1, p2, L3, hp⟩ : ∃ p1 p2 L3, put m L (keyT k 2) = (p1, p2, L3) := ⟨_, _, _, rfl⟩
    rw [hp] at hq
    have HP := hid hp
    clear hp he
    go_enter Try.func22, Try.ntmps22
    go_wp2_with fail
    refine (derive_c k 2 HP H.out).mono ?_
    rintro e2 w1 ⟨rfl, h1⟩
    replace H := hid h1
    clear h1
    by_cases hz : p2 = 0
    · subst hz
      rw [if_pos rfl] at hq
      simp only [Prod.mk.injEq] at hq
      obtain ⟨⟨rfl, rfl⟩, rfl, rfl⟩ := hq
      have hk := Hd.nthk 2 H.out rfl
      have c0 := (cell_of_heap hk 0).trans (show _ = some (.int .i64 k) from rfl)
      have c1 := (cell_of_heap hk 1).trans (show _ = some (.int .i64 e) from rfl)
      have cs := (Array.getElem?_eq_some_iff.1 hk).1
      clear hk
      have hk := Hd.nthk 1 H.out rfl
      have q0 := (cell_of_heap hk 0).trans (show _ = some (.int .i64 0) from rfl)
      have q1 := (cell_of_heap hk 1).trans (show _ = some (.int .i64 0) from rfl)
      have qs := (Array.getElem?_eq_some_iff.1 hk).1
      have qf := frozen_of_heap hk
      clear hk
      go_wp2_with fail
      refine bodyPost_ret (v := .tuple #[.agg #[.int .i64 p1, .int .i64 (e + 1)], .int .i64 0]) (by simp [results, Try.results22, go_sem, q0, q1]) rfl ⟨rfl, ?_⟩
      exact ((((H.out.front 1 rfl).set 0 (.int .i64 p1)).set 1 (.int .i64 (e + 1))).drop).un2
    · have dz : (p2 != 0) = true := by rw [bne_iff_ne]; exact hz
      rw [if_neg hz] at hq
      simp only [Prod.mk.injEq] at hq
      obtain ⟨⟨rfl, rfl⟩, rfl, rfl⟩ := hq
      have dz2 : decide (p2 = 0) = false := by simpa using hz
      clear hz
      have hk := Hd.nthk 2 H.out rfl
      have c0 := (cell_of_heap hk 0).trans (show _ = some (.int .i64 k) from rfl)
      have c1 := (cell_of_heap hk 1).trans (show _ = some (.int .i64 e) from rfl)
      have cs := (Array.getElem?_eq_some_iff.1 hk).1
      clear hk
      have hk := Hd.nthk 1 H.out rfl
      have q0 := (cell_of_heap hk 0).trans (show _ = some (.int .i64 0) from rfl)
      have q1 := (cell_of_heap hk 1).trans (show _ = some (.int .i64 0) from rfl)
      have qs := (Array.getElem?_eq_some_iff.1 hk).1
      have qf := frozen_of_heap hk
      clear hk
      go_wp2_with fail
      refine bodyPost_ret (v := .tuple #[.agg #[.int .i64 0, .int .i64 0], .int .i64 p2]) (by simp [results, Try.results22, go_sem, q0, q1]) rfl ⟨rfl, ?_⟩
      exact ((((H.out.front 1 rfl).set 0 (.int .i64 0)).set 1 (.int .i64 0)).drop).un2

end
end Go.Proofs.Ytpcfmafokkffgaa
namespace Go.Proofs.Ytpcfmafokkffgaa
open Go.RowKit Go.Shelf
attribute [local go_sem] Oper.semAt_some

/-- So many steps: the keys, the chain, what is wrong, the store. -/
def steps15 (m : Int) : Nat → List T → Int → Int → List Int × (Int × Int) × Int × List T
  | 0, L, k, e => ([], (k, e), 0, L)
  | n + 1, L, k, e =>
    if (put m L (keyT k 1)).2.1 = 0 then
      if (next15 m (put m L (keyT k 1)).2.2 k e).2.1 = 0 then
        let r := steps15 m n (next15 m (put m L (keyT k 1)).2.2 k e).2.2 (next15 m (put m L (keyT k 1)).2.2 k e).1.1 (next15 m (put m L (keyT k 1)).2.2 k e).1.2
        ((put m L (keyT k 1)).1 :: r.1, r.2)
      else ([], (k, e), (next15 m (put m L (keyT k 1)).2.2 k e).2.1, (next15 m (put m L (keyT k 1)).2.2 k e).2.2)
    else ([], (k, e), (put m L (keyT k 1)).2.1, (put m L (keyT k 1)).2.2)
theorem steps15_succ (m : Int) (n : Nat) (L : List T) (k e : Int) : steps15 m (n + 1) L k e =
    if (put m L (keyT k 1)).2.1 = 0 then
      if (next15 m (put m L (keyT k 1)).2.2 k e).2.1 = 0 then
        ((put m L (keyT k 1)).1 :: (steps15 m n (next15 m (put m L (keyT k 1)).2.2 k e).2.2 (next15 m (put m L (keyT k 1)).2.2 k e).1.1 (next15 m (put m L (keyT k 1)).2.2 k e).1.2).1, (steps15 m n (next15 m (put m L (keyT k 1)).2.2 k e).2.2 (next15 m (put m L (keyT k 1)).2.2 k e).1.1 (next15 m (put m L (keyT k 1)).2.2 k e).1.2).2)
      else ([], (k, e), (next15 m (put m L (keyT k 1)).2.2 k e).2.1, (next15 m (put m L (keyT k 1)).2.2 k e).2.2)
    else ([], (k, e), (put m L (keyT k 1)).2.1, (put m L (keyT k 1)).2.2) := rfl
/-- The chain of another epoch. -/
def to15 (m : Int) (L : List T) (k e x : Int) : (Int × Int) × List Int × Int × List T :=
  if x < e then ((0, 0), [], 12, L)
  else if 4 < x - e then ((0, 0), [], 13, L)
  else if (steps15 m (x - e).toNat L k e).2.2.1 = 0 then ((steps15 m (x - e).toNat L k e).2.1, (steps15 m (x - e).toNat L k e).1, 0, (steps15 m (x - e).toNat L k e).2.2.2)
  else ((0, 0), [], (steps15 m (x - e).toNat L k e).2.2.1, (steps15 m (x - e).toNat L k e).2.2.2)

theorem next15_epoch {m : Int} {L L2 : List T} {k e dk de : Int} (h : next15 m L k e = ((dk, de), 0, L2)) : de = e + 1 ∧ 0 ≤ e ∧ e < 1000 := by
  unfold next15 at h
  split at h
  · simp at h
  · split at h
    · simp only [Prod.mk.injEq] at h
      exact ⟨h.1.2.symm, by omega, by omega⟩
    · rename_i h2
      simp only [Prod.mk.injEq] at h
      exact absurd h.2.1 h2

section
variable {W w : World} {Rs : List Res}
set_option maxRecDepth 100000 in
set_option maxHeartbeats 1000000 in
theorem steps_calls (k e n : Int) (b : Nat) (h : Hd W w Rs) :
    Calls Try.prog 55 #[.agg #[.int .i64 k, .int .i64 e], .pointer (some ⟨b, 0, none⟩), .int .i64 n] w fun e' w' => ∃ c, e' = .returned (.func (.func 79) #[] #[.pointer (some ⟨c + 2, 0, none⟩), .pointer (some ⟨c, 0, none⟩), .pointer (some ⟨c + 1, 0, none⟩)]) ∧
      Hd W w' (Blk (c + 2) (.cells #[.int .i64 n] 3 (0, 0)) :: Blk (c + 1) (.cells #[.pointer (some ⟨b, 0, none⟩)] 25 (0, 0)) :: Blk c (.cells #[.int .i64 k, .int .i64 e] 32 (0, 0)) :: Rs) := by
  have H := hid (((h.boxk (o := .cells #[.int .i64 k, .int .i64 e] 32 (0, 0)) w.heap.size rfl).boxk (o := .cells #[.pointer (some ⟨b, 0, none⟩)] 25 (0, 0)) (w.heap.size + 1) (by simp)).boxk (o := .cells #[.int .i64 n] 3 (0, 0)) (w.heap.size + 2) (by simp))
  clear h
  go_enter Try.func55, Try.ntmps55
  go_wp2_with fail
  go_ret
  exact ⟨w.heap.size, rfl, H.out⟩
end

theorem swap_mid {A B C : List Res} : (A ++ (B ++ C)).Perm (B ++ (A ++ C)) := by
  rw [← List.append_assoc, ← List.append_assoc]
  exact List.perm_append_comm.append_right _
theorem Hd.dropTail4 {W w : World} {S A B C : Res} {Rs : List Res} (h : Hd W w (S :: A :: B :: C :: Rs)) : Hd W w (S :: Rs) := h.un2.un2.un2
theorem Hd.dropTail5 {W w : World} {D S A B C : Res} {Rs : List Res} (h : Hd W w (D :: S :: A :: B :: C :: Rs)) : Hd W w (S :: Rs) := h.drop.un2.un2.un2
theorem eq_Ch (k e k' e' : Int) (h : ¬ e = e') (w : World) : (binOp .eql 32 (.agg #[.int .i64 k, .int .i64 e]) (.agg #[.int .i64 k', .int .i64 e'])).run Try.prog w = .ok (.bool false) w := by
  have q : (Op.equalIn 10000 32 (.agg #[.int .i64 k, .int .i64 e]) (.agg #[.int .i64 k', .int .i64 e'])).run Try.prog w = .ok false w := by
    go_simp
  rw [run_eql_struct, q]
  rfl

section
variable {W w : World} {Xs : List Res} {b : Nat} {L : List T} {m : Int}

set_option maxRecDepth 100000 in
set_option maxHeartbeats 4000000 in
theorem steps1_in (nn : Nat) (l : Nat) (k e : Int) (N : Nat) (hN : N ≤ 4) (c : Nat) (J : List Int → Int → Int → List Res → Prop)
    (hY : ∀ (mm : Nat) (pre : List Int) (lk le x dk de : Int) (Js : List Res) (w : World) (Xs : List Res), pre.length < 4 → J pre lk le Js → Hd W w (Js ++ Xs) → YieldAt Fence.wide mm Try.prog l #[.int .i64 x, .agg #[.int .i64 dk, .int .i64 de]] w fun e w' => e = .returned (.bool true) ∧ ∃ Js', J (pre ++ [x]) dk de Js' ∧ Hd W w' (Js' ++ Xs)) (Js0 : List Res) (hJ0 : J [] k e Js0)
    (h : Hd W w (Sto b L m :: Blk c (.cells #[.int .i64 k, .int .i64 e] 32 (0, 0)) :: Blk (c + 1) (.cells #[.pointer (some ⟨b, 0, none⟩)] 25 (0, 0)) :: Blk (c + 2) (.cells #[.int .i64 N] 3 (0, 0)) :: (Js0 ++ Xs))) :
    CallsIn Fence.wide nn Try.prog 79 #[.func (.yield l) #[] #[], .pointer (some ⟨c + 2, 0, none⟩), .pointer (some ⟨c, 0, none⟩), .pointer (some ⟨c + 1, 0, none⟩)] w fun e' w' =>
      e' = .returned (.int .i64 (steps15 m N L k e).2.2.1) ∧ ∃ pre lk le Js, ((steps15 m N L k e).2.2.1 = 0 → pre = (steps15 m N L k e).1 ∧ (lk, le) = (steps15 m N L k e).2.1) ∧ J pre lk le Js ∧ Hd W w' (Sto b (steps15 m N L k e).2.2.2 m :: (Js ++ Xs)) := by
  have H0 := hid h
  clear h
  have HY := hid hY
  clear hY
  refine callsIn_of_wp Try.func79 rfl trivial ?_ rfl
  simp only [Try.ntmps79, List.size_toArray, List.length_cons, List.length_nil, Nat.reduceAdd, Nat.reduceSub, Array.replicate_succ, Array.replicate_zero, List.push_toArray, List.append_toArray, List.nil_append, List.cons_append]
  have hk := Hd.nthk 3 H0.out rfl
  have n0 := (cell_of_heap hk 0).trans (show _ = some (.int .i64 N) from rfl)
  clear hk
  gi_wp2
  clear n0
  gi_loopw [10] (fun p wr => ∃ (i : Nat) (pre : List Int) (k1 e1 : Int) (L1 : List T) (Js : List Res), i ≤ N ∧ p = .int .i64 i ∧ pre.length = i ∧ Hid (J pre k1 e1 Js) ∧ Hid ((steps15 m N L k e).2 = (steps15 m (N - i) L1 k1 e1).2 ∧ (steps15 m N L k e).1 = pre ++ (steps15 m (N - i) L1 k1 e1).1) ∧
      Hid (Hd W wr (Sto b L1 m :: Blk c (.cells #[.int .i64 k1, .int .i64 e1] 32 (0, 0)) :: Blk (c + 1) (.cells #[.pointer (some ⟨b, 0, none⟩)] 25 (0, 0)) :: Blk (c + 2) (.cells #[.int .i64 N] 3 (0, 0)) :: (Js ++ Xs)))) (fun p _ => N - (intOf p).toNat)
  case atStart => exact ⟨0, [], k, e, L, Js0, Nat.zero_le _, rfl, rfl, hid hJ0, hid ⟨rfl, rfl⟩, H0⟩
  case round =>
    clear H0
    obtain ⟨i, pre, k1, e1, L1, Js, hi, rfl, hpre, HJ, HS, H⟩ := hrel
    obtain ⟨wo, hwo⟩ : ∃ wo : World, wo = wr := ⟨_, rfl⟩
    rw [← hwo] at H ⊢
    clear hwo wr
    have hi0 : 0 ≤ (i : Int) := by omega
    by_cases hlt : i < N
    · have d1 : decide ((i : Int) < (N : Int)) = true := by simp; omega
      have d1' : decide (i < N) = true := by simp; omega
      obtain ⟨q, hq⟩ : ∃ q, N - i = q + 1 := ⟨N - i - 1, by omega⟩
      obtain ⟨s1, s2, L2, hs⟩ : ∃ s1 s2 L2, put m L1 (keyT k1 1) = (s1, s2, L2) := ⟨_, _, _, rfl⟩
      have hst := HS.out
      rw [hq, steps15_succ] at hst
      rw [hs] at hst
      dsimp only at hst
      have HP := hid hs
      clear hs
      have hk := Hd.nthk 1 H.out rfl
      have c0 := (cell_of_heap hk 0).trans (show _ = some (.int .i64 k1) from rfl)
      have c1 := (cell_of_heap hk 1).trans (show _ = some (.int .i64 e1) from rfl)
      clear hk
      have hk := Hd.nthk 2 H.out rfl
      have b0 := (cell_of_heap hk 0).trans (show _ = some (.pointer (some ⟨b, 0, none⟩)) from rfl)
      clear hk
      have HST := hid hst
      have HPRE := hid hpre
      have HQ := hid hq
      clear hst hpre hq
      gi_wp2
      refine ⟨trivial, fun h => (by cases h), ?_⟩
      refine (callsIn_wide.2 (seal15_calls k1 e1 HP.out H.out)).mono ?_
      rintro e' w2 ⟨rfl, hd⟩
      have H2 := hid hd
      clear hd c0 c1 b0 H
      have H := H2
      clear H2
      by_cases hs0 : s2 = 0
      · subst hs0
        have hst := HST.out
        rw [if_pos rfl] at hst
        obtain ⟨dk, de, x2, L3, hx⟩ : ∃ dk de x2 L3, next15 m L2 k1 e1 = ((dk, de), x2, L3) := ⟨_, _, _, _, rfl⟩
        rw [hx] at hst
        dsimp only at hst
        have HX := hid hx
        have HST2 := hid hst
        clear hst HST hx
        have hk := Hd.nthk 1 H.out rfl
        have c0 := (cell_of_heap hk 0).trans (show _ = some (.int .i64 k1) from rfl)
        have c1 := (cell_of_heap hk 1).trans (show _ = some (.int .i64 e1) from rfl)
        clear hk
        have hk := Hd.nthk 2 H.out rfl
        have b0 := (cell_of_heap hk 0).trans (show _ = some (.pointer (some ⟨b, 0, none⟩)) from rfl)
        clear hk
        gi_wp2
        refine ⟨trivial, fun h => (by cases h), ?_⟩
        refine (callsIn_wide.2 (next15_calls k1 e1 HX.out H.out)).mono ?_
        rintro e' w3 ⟨rfl, hd⟩
        have H2 := hid (hd.boxk (o := .cells #[.int .i64 dk, .int .i64 de] 32 (0, 0)) w3.heap.size rfl)
        clear hd c0 c1 b0 H
        have H := H2
        clear H2
        by_cases hx0 : x2 = 0
        · subst hx0
          have hst := HST2.out
          rw [if_pos rfl] at hst
          have HST := hid hst
          clear hst HST2
          obtain ⟨hde, he0, he1⟩ := next15_epoch HX.out
          have heq := eq_Ch k1 e1 dk de (by omega)
          clear hde he0 he1
          obtain ⟨wd, hwd⟩ : ∃ wd, w3.alloc (.cells #[.int .i64 dk, .int .i64 de] 32 (0, 0)) = wd := ⟨_, rfl⟩
          rw [hwd] at H
          have HWD := hid hwd
          have hk := Hd.nthk 2 H.out rfl
          have c0 := (cell_of_heap hk 0).trans (show _ = some (.int .i64 k1) from rfl)
          have c1 := (cell_of_heap hk 1).trans (show _ = some (.int .i64 e1) from rfl)
          clear hk
          have hk := Hd.nthk 0 H.out rfl
          have dd0 := (cell_of_heap hk 0).trans (show _ = some (.int .i64 dk) from rfl)
          have dd1 := (cell_of_heap hk 1).trans (show _ = some (.int .i64 de) from rfl)
          clear hk
          have hH := Hd.perm (swap_mid (A := [Blk w3.heap.size (.cells #[.int .i64 dk, .int .i64 de] 32 (0, 0)), Sto b L3 m, Blk c (.cells #[.int .i64 k1, .int .i64 e1] 32 (0, 0)), Blk (c + 1) (.cells #[.pointer (some ⟨b, 0, none⟩)] 25 (0, 0)), Blk (c + 2) (.cells #[.int .i64 N] 3 (0, 0))])) H.out
          obtain ⟨fn, tmps, assign, body, hy, hR⟩ := HY.out (nn - 1) pre k1 e1 s1 dk de Js wd _ (by have := HPRE.out; omega) HJ.out hH
          have HRR := hid hR
          clear hR hH
          subst hwd
          gi_wp2
          refine ⟨fun h => (by cases h), ?_⟩
          refine HRR.out.mono ?_
          rintro e' w4 ⟨rfl, Js2, hJ2, hd⟩
          have H2 := hid (Hd.perm swap_mid hd)
          have HJ2 := hid hJ2
          clear hJ2 HJ hd c0 c1 dd0 dd1 H HRR hy heq HWD
          have H := H2
          clear H2
          have hk := Hd.nthk 0 H.out rfl
          have dd0 := (cell_of_heap hk 0).trans (show _ = some (.int .i64 dk) from rfl)
          have dd1 := (cell_of_heap hk 1).trans (show _ = some (.int .i64 de) from rfl)
          clear hk
          have hk := Hd.nthk 2 H.out rfl
          have c0 := (cell_of_heap hk 0).trans (show _ = some (.int .i64 k1) from rfl)
          have c1 := (cell_of_heap hk 1).trans (show _ = some (.int .i64 e1) from rfl)
          have cs := (Array.getElem?_eq_some_iff.1 hk).1
          have cf := frozen_of_heap hk
          clear hk
          have zDC := blks_ne ((H.out.front 2 rfl).front 1 rfl)
          gi_wp2
          go_roundw
          case rel => exact ⟨i + 1, pre ++ [s1], dk, de, L3, Js2, by omega, by go_num, by simp [HPRE.out], HJ2, hid (by
            have h1 := HST.out
            have h2 := HQ.out
            rw [show N - (i + 1) = q by omega]
            refine ⟨h1.1, ?_⟩
            rw [h1.2]
            simp), hid (((((H.out.front 2 rfl).set 0 (.int .i64 dk)).set 1 (.int .i64 de)).front 1 rfl).drop.swap)⟩
          case measure => simp [intOf]; omega
        · have dx : (x2 != 0) = true := by rw [bne_iff_ne]; exact hx0
          have dx' : decide (x2 = 0) = false := by simpa using hx0
          have hst := HST2.out
          rw [if_neg hx0] at hst
          clear hx0
          gi_wp2
          refine bodyPost_ret (v := .int .i64 x2) (by simp [results, Try.results79, go_sem]) rfl ?_
          refine ⟨by rw [hst.1], pre, k1, e1, Js, fun h0 => ?_, HJ.out, ?_⟩
          · rw [hst.1] at h0; dsimp only at h0; rw [h0] at dx; cases dx
          · rw [hst.1]
            exact Hd.dropTail5 H.out
      · have dx : (s2 != 0) = true := by rw [bne_iff_ne]; exact hs0
        have dx' : decide (s2 = 0) = false := by simpa using hs0
        have hst := HST.out
        rw [if_neg hs0] at hst
        clear hs0
        gi_wp2
        refine bodyPost_ret (v := .int .i64 s2) (by simp [results, Try.results79, go_sem]) rfl ?_
        refine ⟨by rw [hst.1], pre, k1, e1, Js, fun h0 => ?_, HJ.out, ?_⟩
        · rw [hst.1] at h0; dsimp only at h0; rw [h0] at dx; cases dx
        · rw [hst.1]
          exact Hd.dropTail4 H.out
    · obtain rfl : i = N := by omega
      have d1 : decide ((i : Int) < (i : Int)) = false := by simp
      have hst := HS.out
      rw [Nat.sub_self] at hst
      clear hlt hpre
      gi_wp2
      refine bodyPost_ret (v := .int .i64 0) (by simp [results, Try.results79, go_sem]) rfl ?_
      refine ⟨by rw [hst.1]; rfl, pre, k1, e1, Js, fun _ => ?_, HJ.out, ?_⟩
      · rw [hst.1, hst.2]; simp [steps15]
      · rw [hst.1]
        exact Hd.dropTail4 H.out
end
end Go.Proofs.Ytpcfmafokkffgaa
namespace Go.Proofs.Ytpcfmafokkffgaa
open Go.RowKit

/-- A slice value that owns its row: n elements of the type e, of so many cells each. -/
def RowR (e : TypeId) (size : Nat) (v : Value) (n : Nat) (xs : List Value) : Res := fun f => xs.length = n * size ∧
  ((v = .slice none 0 0 ∧ n = 0 ∧ f = fun _ => none) ∨
   ∃ g cap cur, v = .slice (some ⟨g, 0, none⟩) n cap ∧ n ≤ cap ∧ cap ≤ maxLen ∧ cur.size = cap * size ∧ cur.toList.take (n * size) = xs ∧ f = fun j => if j = g then some (.cells cur e (0, 0)) else none)

def nums (k : IntKind) (xs : List Int) : List Value := xs.map (.int k)

section
variable {W w X w' : World} {e : TypeId} {size n n' : Nat} {v : Value} {xs ys : List Value} {Rs : List Res}

theorem rowR_owns {f : Frag} (h : RowR e size v n xs f) (hf : FragIn f w) : w.ownsRow 0 e size v n xs := by
  obtain ⟨hl, ⟨rfl, rfl, rfl⟩ | ⟨g, cap, cur, rfl, h1, h2, h3, h4, rfl⟩⟩ := h
  · exact ⟨hl, .inl ⟨rfl, rfl⟩⟩
  · exact ⟨hl, .inr ⟨g, cap, cur, rfl, Nat.zero_le _, hf g _ (by simp), h1, h2, h3, h4⟩⟩

theorem Hd.owns (h : Hd W w (RowR e size v n xs :: Rs)) : w.ownsRow 0 e size v n xs := by
  obtain ⟨f, hR, hf, _⟩ := h.open
  exact rowR_owns hR hf

/-- After an append. -/
theorem Hd.grown (h : Hd W w (RowR e size v n xs :: Rs)) {g cap : Nat} (ho : w'.ownsRow 0 e size (.slice (some ⟨g, 0, none⟩) n' cap) n' ys) (hg : w.grownBy w' v.ownBlock) (hgg : v.ownBlock = some g ∨ g = w.heap.size) : Hd W w' (RowR e size (.slice (some ⟨g, 0, none⟩) n' cap) n' ys :: Rs) := by
  obtain ⟨f, hR, hf, hlt, hshut⟩ := h.open
  obtain ⟨hl, ⟨h1, _⟩ | ⟨g2, c2, cur, hv, _, hc, h3, h4, h5, h6⟩⟩ := ho
  · cases h1
  simp only [Value.slice.injEq, Option.some.injEq, Addr.mk.injEq, and_true] at hv
  obtain ⟨rfl, _, rfl⟩ := hv
  refine hshut w' _ (fun j => if j = g then some (.cells cur e (0, 0)) else none) ⟨hl, .inr ⟨g, cap, cur, rfl, h3, h4, h5, h6, rfl⟩⟩ (fun k o hk => ?_) (fun k hk => ?_) hg.os hg.tape hg.output hg.size (fun k hk hk2 => ?_)
  · dsimp only at hk
    split at hk
    · rename_i e1; subst e1; rw [hc]; exact hk
    · cases hk
  · split at hk
    · rename_i e1; subst e1
      obtain ⟨_, ⟨rfl, rfl, rfl⟩ | ⟨g3, c3, cur3, rfl, _, _, _, _, rfl⟩⟩ := hR
      · rcases hgg with h | h
        · cases h
        · exact .inr (by omega)
      · rcases hgg with h | h
        · simp only [Value.ownBlock, Option.some.injEq] at h; subst h; exact .inl (by simp)
        · exact .inr (by omega)
    · exact absurd rfl hk
  · refine hg.block k hk fun e1 => ?_
    obtain ⟨_, ⟨rfl, rfl, rfl⟩ | ⟨g3, c3, cur3, rfl, _, _, _, _, rfl⟩⟩ := hR
    · cases e1
    · simp only [Value.ownBlock, Option.some.injEq] at e1; subst e1; simp at hk2

/-- A cell of it. -/
theorem Hd.row_cell (h : Hd W w (RowR e size v n xs :: Rs)) {j : Nat} {u : Value} (hj : xs[j]? = some u) : ∃ g cap, v = .slice (some ⟨g, 0, none⟩) n cap ∧ w.cell? ⟨g, j, none⟩ = some u := by
  obtain ⟨hl, ⟨rfl, rfl⟩ | ⟨g, cap, cur, rfl, _, hc, h3, h4, h5, h6⟩⟩ := h.owns
  · have := (List.getElem?_eq_some_iff.1 hj).1
    omega
  · refine ⟨g, cap, rfl, ?_⟩
    rw [cell_of_heap hc, ← Array.getElem?_toList]
    exact get_of_take h6 hj
theorem Hd.row_form (h : Hd W w (RowR e size v n xs :: Rs)) : ∃ a cap, v = .slice a n cap := by
  obtain ⟨hl, ⟨rfl, rfl⟩ | ⟨g, cap, cur, rfl, _, hc, h3, h4, h5, h6⟩⟩ := h.owns
  · exact ⟨_, _, rfl⟩
  · exact ⟨_, _, rfl⟩

/-- APPEND ONE NUMBER, at the list of a plain region's operations. -/
theorem append_num {ops : Array Oper} {rest : List Oper} {o : Oper} {a : Act} {Q : Exit → Act → World → Prop} {k : IntKind} {T E bytes : Nat} {i : TypeInfo} {zs : List Int} (ht : Try.prog.underlying T = some (.slice E)) (hi : Try.prog.info? E = some i) (hz : i.zero = some (.int k 0)) (hsize : i.size = 1) (hby : i.bytes = bytes) (hb8 : bytes ≤ 8)
    (hgd : o.guard = none) (s x : Operand) (ho : o.op = .call { callee := .builtin .append, args := #[s, x], argTypes := #[T, T] }) (h : Hd W w (RowR E 1 v n (nums k zs) :: Rs)) (hs : a.eval s = v) (d : Int) (hx : a.eval x = .slice (some ⟨w.heap.size, 0, none⟩) 1 1) (hn : n ≤ 1048577)
    (hK : ∀ g cap w', Hd W w' (RowR E 1 (.slice (some ⟨g, 0, none⟩) (n + 1) cap) (n + 1) (nums k (zs ++ [d])) :: Rs) → wpList Try.prog ops Q rest (a.put o.dst (.slice (some ⟨g, 0, none⟩) (n + 1) cap)) w') :
    wpList Try.prog ops Q (o :: rest) a (w.alloc (.cells #[.int k d] E (0, 0))) := by
  have hd := h.al (o := .cells #[.int k d] E (0, 0))
  refine wpList_append_lies _ hgd s x T ho 0 E i (.int k 0) 1 bytes ht hi hz hsize hby rfl (by decide) v n _ hs hd.owns ⟨w.heap.size, 0, none⟩ 1 1 [.int k d] hx rfl (World.news_of_block (heap_alloc_new _ _)) (by simp [Value.oneCell']) (by decide) (by simp only [maxLen]; omega) ?_ (Nat.zero_le _) _ rfl ?_
  · have : (n + 1) * bytes ≤ (n + 1) * 8 := Nat.mul_le_mul_left _ hb8
    omega
  · intro g cap w' ho' hg hgg _
    refine hK g cap w' ?_
    have := hd.grown ho' hg hgg
    rw [show nums k (zs ++ [d]) = nums k zs ++ [.int k d] by simp [nums]]
    exact this
end

end Go.Proofs.Ytpcfmafokkffgaa
