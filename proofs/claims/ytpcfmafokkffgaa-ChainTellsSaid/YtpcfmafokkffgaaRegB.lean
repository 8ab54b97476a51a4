/-
  (*term.Store).Put: the statement in which both rows grow: what it comes to, in every order. For every store.
-/
import Derived.Test.YtpcfmafokkffgaaReg
namespace Go.Proofs.Ytpcfmafokkffgaa
open Go.RowKit

theorem all_listed {ops : Array Oper} (hd : ops.toList.map (fun o => (o.after.toList.filter (Region.binds .any)).map (·.on)) = deps15) {listed : Array Bool} (hs : listed.size = 23) (hr : Region.ready .any ops listed = []) : ∀ i, i < 23 → listed.getD i false = true := by
  have hlen : ops.size = 23 := by
    have := congrArg List.length hd
    simpa [deps15] using this
  have hdl : ∀ i, i < 23 → ∀ d ∈ deps15.getD i [], d < i := by decide
  intro i
  induction i using Nat.strongRecOn with
  | _ i ih =>
    intro hi
    refine Classical.byContradiction fun hne => ?_
    have h1 : listed.getD i true = false := by
      have hlt : i < listed.size := by omega
      simp only [Array.getD_eq_getD_getElem?, Array.getElem?_eq_getElem hlt, Option.getD_some] at hne ⊢
      simpa using hne
    have hio : i < ops.size := by omega
    have hmem : i ∈ Region.ready .any ops listed := mem_ready.2 ⟨h1, ops[i], Array.getElem?_eq_getElem hio, fun e he hb => by
      have h2 : deps15[i]? = some ((ops[i].after.toList.filter (Region.binds .any)).map (·.on)) := by
        rw [← hd, List.getElem?_map, Array.getElem?_toList, Array.getElem?_eq_getElem hio]; rfl
      have h3 : e.on ∈ deps15.getD i [] := by
        simp only [List.getD, h2, Option.getD_some, List.mem_map, List.mem_filter]
        exact ⟨e, ⟨by simpa using he, hb⟩, rfl⟩
      have h4 := hdl i hi e.on h3
      exact ih e.on h4 (by omega)⟩
    rw [hr] at hmem
    cases hmem

theorem getD_set_other {listed : Array Bool} {i j : Nat} (h : j ≠ i) : (listed.setIfInBounds i true).getD j false = listed.getD j false := by
  simp [Array.getElem?_setIfInBounds_ne (Ne.symm h)]
theorem getD_set_self {listed : Array Bool} {i : Nat} (h : listed.getD i true = false) : (listed.setIfInBounds i true).getD i false = true := by
  have hlt : i < listed.size := by
    rcases Nat.lt_or_ge i listed.size with h' | h'
    · exact h'
    · simp [Array.getElem?_eq_none h'] at h
  simp [hlt]
theorem getD_false {listed : Array Bool} {i : Nat} (h : listed.getD i true = false) : listed.getD i false = false := by
  cases hl : listed[i]? with
  | none => simp [hl] at h
  | some x => simp [hl] at h ⊢; exact h

/-- The world on the way. -/
structure Wd (W : World) (b lb db mb : Nat) (m : Int) (sl : Value) (n : Nat) (xs : List Value) (sd : Value) (nd : Nat) (ds : List Value) (t : T) (d : Int) (x1 x2 : Nat) (v1 v2 : Value) (c7 c8 c15 c16 c19 c22 : Bool) (X : World) : Prop where
  pw : PW W b lb db mb m (if c19 then v1 else sl) (if c22 then v2 else sd) (if c8 then v1 else sl) (if c8 then n + 1 else n) (if c8 then xs ++ T.cells t else xs) (if c16 then v2 else sd) (if c16 then nd + 1 else nd) (if c16 then ds ++ [.int .i64 (d + 1)] else ds) X
  n1 : c7 = true → c8 = false → W.heap.size ≤ x1 ∧ X.heap[x1]? = some (.cells (T.cells t).toArray 47 (0, 0))
  n2 : c15 = true → c16 = false → W.heap.size ≤ x2 ∧ X.heap[x2]? = some (.cells #[.int .i64 (d + 1)] 3 (0, 0))

theorem PW.store0 {W X : World} {b lb db mb : Nat} {m : Int} {h0 h1 vl : Value} {nl : Nat} {xs : List Value} {vd : Value} {nd : Nat} {ds : List Value} (h : PW W b lb db mb m h0 h1 vl nl xs vd nd ds X) (u : Value) :
    PW W b lb db mb m u h1 vl nl xs vd nd ds (X.setCell ⟨b, 0, none⟩ u) := by
  have hk : ∀ k, k ≠ b → (X.setCell ⟨b, 0, none⟩ u).heap[k]? = X.heap[k]? := fun k hk => Below.heap_setCell _ _ _ _ hk
  refine ⟨?_, own_keep h.ol fun g e => hk g (h.bl g e).1, own_keep h.od fun g e => hk g (h.bd g e).1, h.bl, h.bd, h.ld, h.lts, fun k k0 k1 k2 k3 => (hk k k1).trans (h.old k k0 k1 k2 k3), h.os, h.tape, h.output, by simpa using h.size⟩
  simp only [World.setCell, Array.getElem?_modify, h.hdr]
  simp
theorem PW.store1 {W X : World} {b lb db mb : Nat} {m : Int} {h0 h1 vl : Value} {nl : Nat} {xs : List Value} {vd : Value} {nd : Nat} {ds : List Value} (h : PW W b lb db mb m h0 h1 vl nl xs vd nd ds X) (u : Value) :
    PW W b lb db mb m h0 u vl nl xs vd nd ds (X.setCell ⟨b, 1, none⟩ u) := by
  have hk : ∀ k, k ≠ b → (X.setCell ⟨b, 1, none⟩ u).heap[k]? = X.heap[k]? := fun k hk => Below.heap_setCell _ _ _ _ hk
  refine ⟨?_, own_keep h.ol fun g e => hk g (h.bl g e).1, own_keep h.od fun g e => hk g (h.bd g e).1, h.bl, h.bd, h.ld, h.lts, fun k k0 k1 k2 k3 => (hk k k1).trans (h.old k k0 k1 k2 k3), h.os, h.tape, h.output, by simpa using h.size⟩
  simp only [World.setCell, Array.getElem?_modify, h.hdr]
  simp

def I15 (W : World) (b lb db mb : Nat) (m : Int) (sl : Value) (n : Nat) (xs : List Value) (sd : Value) (nd : Nat) (ds : List Value) (t : T) (d : Int) (a0 : Act) (listed : Array Bool) (a : Act) (X : World) : Prop :=
  listed.size = 23 ∧ (∀ i, i < 23 → listed.getD i false = true → ∀ d ∈ deps15.getD i [], listed.getD d false = true) ∧ ∃ x1 x2 g1 k1 g2 k2, Slots a0 (val15 b sl sd (T.val t) d x1 x2 (.slice (some ⟨g1, 0, none⟩) (n + 1) k1) (.slice (some ⟨g2, 0, none⟩) (nd + 1) k2)) listed a ∧
    Wd W b lb db mb m sl n xs sd nd ds t d x1 x2 (.slice (some ⟨g1, 0, none⟩) (n + 1) k1) (.slice (some ⟨g2, 0, none⟩) (nd + 1) k2) (listed.getD 7 false) (listed.getD 8 false) (listed.getD 15 false) (listed.getD 16 false) (listed.getD 19 false) (listed.getD 22 false) X

set_option maxHeartbeats 1000000 in
theorem region15 {ops : Array Oper} (hc : ops.toList.map (fun o => (o.dst, o.op, o.guard)) = core15) (hd : ops.toList.map (fun o => (o.after.toList.filter (Region.binds .any)).map (·.on)) = deps15) {id : Nat} {Q : Exit → Act → World → Prop} {a0 : Act} {W : World}
    {b lb db mb B lc dc : Nat} {m : Int} {n nd : Nat} {xs ds : List Value} {t : T} {d : Int} (hs : 76 < a0.tmps.size) (e0 : a0.eval (.tmp 0) = .pointer (some ⟨b, 0, none⟩)) (e3 : a0.eval (.tmp 3) = .pointer (some ⟨B, 0, none⟩)) (e8 : a0.eval (.tmp 8) = .int .i64 d)
    (hP : PW W b lb db mb m (.slice (some ⟨lb, 0, none⟩) n lc) (.slice (some ⟨db, 0, none⟩) nd dc) (.slice (some ⟨lb, 0, none⟩) n lc) n xs (.slice (some ⟨db, 0, none⟩) nd dc) nd ds W) (hbox : W.heap[B]? = some (.cells (T.cells t).toArray 47 (0, 0)))
    (hB : B ≠ b ∧ B ≠ lb ∧ B ≠ db) (hn : n ≤ 1048577) (hnd : nd ≤ 1048577) (d0 : 0 ≤ d) (d1 : d ≤ 1048577)
    (hQ : ∀ a' X g1 k1 g2 k2, a'.tmps.size = a0.tmps.size → a'.defers = a0.defers → (∀ t : Nat, (t < 56 ∨ 76 < t) → a'.eval (.tmp t) = a0.eval (.tmp t)) →
      PW W b lb db mb m (.slice (some ⟨g1, 0, none⟩) (n + 1) k1) (.slice (some ⟨g2, 0, none⟩) (nd + 1) k2) (.slice (some ⟨g1, 0, none⟩) (n + 1) k1) (n + 1) (xs ++ T.cells t) (.slice (some ⟨g2, 0, none⟩) (nd + 1) k2) (nd + 1) (ds ++ [.int .i64 (d + 1)]) X → Q .normal a' X) :
    (Code.region id ops true).wp Try.prog Q a0 W := by
  have hlen : ops.size = 23 := by
    have := congrArg List.length hd
    simpa [deps15] using this
  refine wp_region_inv (I15 W b lb db mb m (.slice (some ⟨lb, 0, none⟩) n lc) n xs (.slice (some ⟨db, 0, none⟩) nd dc) nd ds t d) (by kernel_rfl) ?_ ?_ ?_
  · refine ⟨by simp [hlen], fun i _ h => ?_, 0, 0, 0, 0, 0, 0, ⟨rfl, rfl, fun _ _ => rfl, fun i d h _ => ?_⟩, ?_⟩
    · rw [hlen] at h
      simp only [Array.getD_eq_getD_getElem?, Array.getElem?_replicate] at h
      split at h <;> simp at h
    · rw [hlen] at h
      simp only [Array.getD_eq_getD_getElem?, Array.getElem?_replicate] at h
      split at h <;> simp at h
    · rw [hlen]
      exact ⟨hP.drew, fun h => by simp at h, fun h => by simp at h⟩
  · intro listed a X ⟨hsz, hcl, x1, x2, g1, k1, g2, k2, hS, hW⟩ i hi
    obtain ⟨hu, o, ho, _⟩ := mem_ready.1 hi
    have hi23 : i < 23 := by have := (Array.getElem?_eq_some_iff.1 ho).1; omega
    have hcore := op_core hc ho
    have hsz' : (listed.setIfInBounds i true).size = 23 := by simpa using hsz
    have hself := getD_set_self hu
    have hf := getD_false hu
    have hBX : X.heap[B]? = some (.cells (T.cells t).toArray 47 (0, 0)) := (hW.pw.old B (Array.getElem?_eq_some_iff.1 hbox).1 hB.1 hB.2.1 hB.2.2).trans hbox
    have E0 : a.eval (.tmp 0) = .pointer (some ⟨b, 0, none⟩) := (hS.rest 0 (by omega)).trans e0
    have E3 : a.eval (.tmp 3) = .pointer (some ⟨B, 0, none⟩) := (hS.rest 3 (by omega)).trans e3
    have E8 : a.eval (.tmp 8) = .int .i64 d := (hS.rest 8 (by omega)).trans e8
    have hcl' : ∀ j, j < 23 → (listed.setIfInBounds i true).getD j false = true → ∀ d ∈ deps15.getD j [], (listed.setIfInBounds i true).getD d false = true := fun j hj hl d hd' => by
      have up : ∀ d, listed.getD d false = true → (listed.setIfInBounds i true).getD d false = true := fun d h => by
        by_cases e : d = i
        · rw [e]; exact hself
        · rw [getD_set_other e]; exact h
      rcases getD_set hl with e | e
      · rw [e] at hd'; exact up d (ready_dep hd d hi hd')
      · exact up d (hcl j hj e d hd')
    have hno : ∀ j, j < 23 → i ∈ deps15.getD j [] → listed.getD j false = false := fun j hj hd' => by
      cases h : listed.getD j false with
      | false => rfl
      | true => have := hcl j hj h i hd'; rw [hf] at this; cases this
    have hcases : i = 0 ∨ i = 1 ∨ i = 2 ∨ i = 3 ∨ i = 4 ∨ i = 5 ∨ i = 6 ∨ i = 7 ∨ i = 8 ∨ i = 9 ∨ i = 10 ∨ i = 11 ∨ i = 12 ∨ i = 13 ∨ i = 14 ∨ i = 15 ∨ i = 16 ∨ i = 17 ∨ i = 18 ∨ i = 19 ∨ i = 20 ∨ i = 21 ∨ i = 22 := by omega
    rcases hcases with rfl | rfl | rfl | rfl | rfl | rfl | rfl | rfl | rfl | rfl | rfl | rfl | rfl | rfl | rfl | rfl | rfl | rfl | rfl | rfl | rfl | rfl | rfl
    · simp only [core15, List.getElem?_cons_zero, Option.some.injEq, Prod.mk.injEq] at hcore
      obtain ⟨hdst, hop, hg⟩ := hcore
      refine wpOp_plain ho hg.symm ?_
      refine wp_of_run (exec_move hop.symm _ _) ?_
      rw [E0]
      exact ⟨hsz', hcl', x1, x2, g1, k1, g2, k2, hS.step hs (by rw [← hdst]; rfl) (.inr (by simp [val15])) (fun _ _ _ => rfl), by rw [getD_set_other (i := 0) (show 7 ≠ 0 by decide), getD_set_other (i := 0) (show 8 ≠ 0 by decide), getD_set_other (i := 0) (show 15 ≠ 0 by decide), getD_set_other (i := 0) (show 16 ≠ 0 by decide), getD_set_other (i := 0) (show 19 ≠ 0 by decide), getD_set_other (i := 0) (show 22 ≠ 0 by decide)]; exact hW⟩
    · simp only [core15, List.getElem?_cons_succ, List.getElem?_cons_zero, Option.some.injEq, Prod.mk.injEq] at hcore
      obtain ⟨hdst, hop, hg⟩ := hcore
      refine wpOp_plain ho hg.symm ?_
      refine wp_of_run (exec_move hop.symm _ _) ?_
      rw [E0]
      exact ⟨hsz', hcl', x1, x2, g1, k1, g2, k2, hS.step hs (by rw [← hdst]; rfl) (.inr (by simp [val15])) (fun _ _ _ => rfl), by rw [getD_set_other (i := 1) (show 7 ≠ 1 by decide), getD_set_other (i := 1) (show 8 ≠ 1 by decide), getD_set_other (i := 1) (show 15 ≠ 1 by decide), getD_set_other (i := 1) (show 16 ≠ 1 by decide), getD_set_other (i := 1) (show 19 ≠ 1 by decide), getD_set_other (i := 1) (show 22 ≠ 1 by decide)]; exact hW⟩
    · simp only [core15, List.getElem?_cons_succ, List.getElem?_cons_zero, Option.some.injEq, Prod.mk.injEq] at hcore
      obtain ⟨hdst, hop, hg⟩ := hcore
      refine wpOp_plain ho hg.symm ?_
      refine wp_of_run (exec_move hop.symm _ _) ?_
      rw [E0]
      exact ⟨hsz', hcl', x1, x2, g1, k1, g2, k2, hS.step hs (by rw [← hdst]; rfl) (.inr (by simp [val15])) (fun _ _ _ => rfl), by rw [getD_set_other (i := 2) (show 7 ≠ 2 by decide), getD_set_other (i := 2) (show 8 ≠ 2 by decide), getD_set_other (i := 2) (show 15 ≠ 2 by decide), getD_set_other (i := 2) (show 16 ≠ 2 by decide), getD_set_other (i := 2) (show 19 ≠ 2 by decide), getD_set_other (i := 2) (show 22 ≠ 2 by decide)]; exact hW⟩
    · simp only [core15, List.getElem?_cons_succ, List.getElem?_cons_zero, Option.some.injEq, Prod.mk.injEq] at hcore
      obtain ⟨hdst, hop, hg⟩ := hcore
      refine wpOp_plain ho hg.symm ?_
      refine wp_of_run (exec_nil hop.symm (hS.has 2 58 (ready_dep hd 2 hi (by decide)) rfl) _ _) ?_
      exact ⟨hsz', hcl', x1, x2, g1, k1, g2, k2, hS.step hs (by rw [← hdst]; rfl) (.inr (by simp [val15])) (fun _ _ _ => rfl), by rw [getD_set_other (i := 3) (show 7 ≠ 3 by decide), getD_set_other (i := 3) (show 8 ≠ 3 by decide), getD_set_other (i := 3) (show 15 ≠ 3 by decide), getD_set_other (i := 3) (show 16 ≠ 3 by decide), getD_set_other (i := 3) (show 19 ≠ 3 by decide), getD_set_other (i := 3) (show 22 ≠ 3 by decide)]; exact hW⟩
    · simp only [core15, List.getElem?_cons_succ, List.getElem?_cons_zero, Option.some.injEq, Prod.mk.injEq] at hcore
      obtain ⟨hdst, hop, hg⟩ := hcore
      refine wpOp_plain ho hg.symm ?_
      refine wp_of_run (exec_fa0 hop.symm (hS.has 3 59 (ready_dep hd 3 hi (by decide)) rfl) _) ?_
      exact ⟨hsz', hcl', x1, x2, g1, k1, g2, k2, hS.step hs (by rw [← hdst]; rfl) (.inr (by simp [val15])) (fun _ _ _ => rfl), by rw [getD_set_other (i := 4) (show 7 ≠ 4 by decide), getD_set_other (i := 4) (show 8 ≠ 4 by decide), getD_set_other (i := 4) (show 15 ≠ 4 by decide), getD_set_other (i := 4) (show 16 ≠ 4 by decide), getD_set_other (i := 4) (show 19 ≠ 4 by decide), getD_set_other (i := 4) (show 22 ≠ 4 by decide)]; exact hW⟩
    · simp only [core15, List.getElem?_cons_succ, List.getElem?_cons_zero, Option.some.injEq, Prod.mk.injEq] at hcore
      obtain ⟨hdst, hop, hg⟩ := hcore
      refine wpOp_plain ho hg.symm ?_
      have hpw := hW.pw
      rw [hno 19 (by omega) (by decide)] at hpw
      refine wp_of_run (exec_load_l hop.symm (hS.has 4 60 (ready_dep hd 4 hi (by decide)) rfl) hpw.c0) ?_
      exact ⟨hsz', hcl', x1, x2, g1, k1, g2, k2, hS.step hs (by rw [← hdst]; rfl) (.inr (by simp [val15])) (fun _ _ _ => rfl), by rw [getD_set_other (i := 5) (show 7 ≠ 5 by decide), getD_set_other (i := 5) (show 8 ≠ 5 by decide), getD_set_other (i := 5) (show 15 ≠ 5 by decide), getD_set_other (i := 5) (show 16 ≠ 5 by decide), getD_set_other (i := 5) (show 19 ≠ 5 by decide), getD_set_other (i := 5) (show 22 ≠ 5 by decide)]; exact hW⟩
    · simp only [core15, List.getElem?_cons_succ, List.getElem?_cons_zero, Option.some.injEq, Prod.mk.injEq] at hcore
      obtain ⟨hdst, hop, hg⟩ := hcore
      refine wpOp_plain ho hg.symm ?_
      refine wp_of_run (exec_load_t hop.symm E3 hBX) ?_
      exact ⟨hsz', hcl', x1, x2, g1, k1, g2, k2, hS.step hs (by rw [← hdst]; rfl) (.inr (by simp [val15])) (fun _ _ _ => rfl), by rw [getD_set_other (i := 6) (show 7 ≠ 6 by decide), getD_set_other (i := 6) (show 8 ≠ 6 by decide), getD_set_other (i := 6) (show 15 ≠ 6 by decide), getD_set_other (i := 6) (show 16 ≠ 6 by decide), getD_set_other (i := 6) (show 19 ≠ 6 by decide), getD_set_other (i := 6) (show 22 ≠ 6 by decide)]; exact hW⟩
    · simp only [core15, List.getElem?_cons_succ, List.getElem?_cons_zero, Option.some.injEq, Prod.mk.injEq] at hcore
      obtain ⟨hdst, hop, hg⟩ := hcore
      refine wpOp_plain ho hg.symm ?_
      refine wp_of_run (exec_build_t hop.symm (hS.has 6 62 (ready_dep hd 6 hi (by decide)) rfl)) ?_
      have hpw := hW.pw
      refine ⟨hsz', hcl', X.heap.size, x2, g1, k1, g2, k2, hS.step hs (by rw [← hdst]; rfl) (.inr (by simp [val15])) (fun j hj _ => by simp [val15, hj]), ?_⟩
      rw [getD_set_other (i := 7) (show 8 ≠ 7 by decide), getD_set_other (i := 7) (show 15 ≠ 7 by decide), getD_set_other (i := 7) (show 16 ≠ 7 by decide), getD_set_other (i := 7) (show 19 ≠ 7 by decide), getD_set_other (i := 7) (show 22 ≠ 7 by decide)]
      exact ⟨hpw.alloc _, fun _ _ => ⟨hpw.size, heap_at rfl⟩, fun h1 h2 => ⟨(hW.n2 h1 h2).1, (Below.heap_alloc _ _ _ (Array.getElem?_eq_some_iff.1 (hW.n2 h1 h2).2).1).trans (hW.n2 h1 h2).2⟩⟩
    · simp only [core15, List.getElem?_cons_succ, List.getElem?_cons_zero, Option.some.injEq, Prod.mk.injEq] at hcore
      obtain ⟨hdst, hop, hg⟩ := hcore
      refine wpOp_plain ho hg.symm ?_
      have hpw := hW.pw
      rw [hf, hno 19 (by omega) (by decide), hno 16 (by omega) (by decide), hno 22 (by omega) (by decide)] at hpw
      have hn1 := hW.n1 (ready_dep hd 7 hi (by decide)) hf
      have key := step_l (ops := ops) (a := a) (K := fun a' w' => I15 W b lb db mb m (.slice (some ⟨lb, 0, none⟩) n lc) n xs (.slice (some ⟨db, 0, none⟩) nd dc) nd ds t d a0 (listed.setIfInBounds 8 true) a' w') (Q := Q) (E := True) hg.symm (.tmp 61) (.tmp 63) hop.symm t x1 hpw (hS.has 5 61 (ready_dep hd 5 hi (by decide)) rfl) (hS.has 7 63 (ready_dep hd 7 hi (by decide)) rfl) hn1.2 hn ?_
      · rw [if_pos (by simp [Region.wanted, ← hg])] at key; exact key
      · intro g cap X' hp' hkeep hsize
        refine ⟨hsz', hcl', x1, x2, g, cap, g2, k2, hS.step hs (by rw [← hdst]; rfl) (.inr (by simp [val15])) (fun j hj _ => by simp [val15, hj]), ?_⟩
        rw [getD_set_other (i := 8) (show 7 ≠ 8 by decide), getD_set_other (i := 8) (show 15 ≠ 8 by decide), getD_set_other (i := 8) (show 16 ≠ 8 by decide), getD_set_other (i := 8) (show 19 ≠ 8 by decide), getD_set_other (i := 8) (show 22 ≠ 8 by decide), hself, hno 19 (by omega) (by decide), hno 16 (by omega) (by decide), hno 22 (by omega) (by decide)]
        refine ⟨hp', (fun _ h => by cases h), fun h1 h2 => ?_⟩
        have h3 := hW.n2 h1 (hno 16 (by omega) (by decide))
        exact ⟨h3.1, (hkeep x2 (Array.getElem?_eq_some_iff.1 h3.2).1 ⟨h3.1, fun e => by simp [Value.ownBlock] at e; have := hP.lts.2.1; omega⟩).trans h3.2⟩
    · simp only [core15, List.getElem?_cons_succ, List.getElem?_cons_zero, Option.some.injEq, Prod.mk.injEq] at hcore
      obtain ⟨hdst, hop, hg⟩ := hcore
      refine wpOp_plain ho hg.symm ?_
      refine wp_of_run (exec_move hop.symm _ _) ?_
      rw [E0]
      exact ⟨hsz', hcl', x1, x2, g1, k1, g2, k2, hS.step hs (by rw [← hdst]; rfl) (.inr (by simp [val15])) (fun _ _ _ => rfl), by rw [getD_set_other (i := 9) (show 7 ≠ 9 by decide), getD_set_other (i := 9) (show 8 ≠ 9 by decide), getD_set_other (i := 9) (show 15 ≠ 9 by decide), getD_set_other (i := 9) (show 16 ≠ 9 by decide), getD_set_other (i := 9) (show 19 ≠ 9 by decide), getD_set_other (i := 9) (show 22 ≠ 9 by decide)]; exact hW⟩
    · simp only [core15, List.getElem?_cons_succ, List.getElem?_cons_zero, Option.some.injEq, Prod.mk.injEq] at hcore
      obtain ⟨hdst, hop, hg⟩ := hcore
      refine wpOp_plain ho hg.symm ?_
      refine wp_of_run (exec_nil hop.symm (hS.has 9 65 (ready_dep hd 9 hi (by decide)) rfl) _ _) ?_
      exact ⟨hsz', hcl', x1, x2, g1, k1, g2, k2, hS.step hs (by rw [← hdst]; rfl) (.inr (by simp [val15])) (fun _ _ _ => rfl), by rw [getD_set_other (i := 10) (show 7 ≠ 10 by decide), getD_set_other (i := 10) (show 8 ≠ 10 by decide), getD_set_other (i := 10) (show 15 ≠ 10 by decide), getD_set_other (i := 10) (show 16 ≠ 10 by decide), getD_set_other (i := 10) (show 19 ≠ 10 by decide), getD_set_other (i := 10) (show 22 ≠ 10 by decide)]; exact hW⟩
    · simp only [core15, List.getElem?_cons_succ, List.getElem?_cons_zero, Option.some.injEq, Prod.mk.injEq] at hcore
      obtain ⟨hdst, hop, hg⟩ := hcore
      refine wpOp_plain ho hg.symm ?_
      refine wp_of_run (exec_fa1 hop.symm (hS.has 10 66 (ready_dep hd 10 hi (by decide)) rfl) _) ?_
      exact ⟨hsz', hcl', x1, x2, g1, k1, g2, k2, hS.step hs (by rw [← hdst]; rfl) (.inr (by simp [val15])) (fun _ _ _ => rfl), by rw [getD_set_other (i := 11) (show 7 ≠ 11 by decide), getD_set_other (i := 11) (show 8 ≠ 11 by decide), getD_set_other (i := 11) (show 15 ≠ 11 by decide), getD_set_other (i := 11) (show 16 ≠ 11 by decide), getD_set_other (i := 11) (show 19 ≠ 11 by decide), getD_set_other (i := 11) (show 22 ≠ 11 by decide)]; exact hW⟩
    · simp only [core15, List.getElem?_cons_succ, List.getElem?_cons_zero, Option.some.injEq, Prod.mk.injEq] at hcore
      obtain ⟨hdst, hop, hg⟩ := hcore
      refine wpOp_plain ho hg.symm ?_
      have hpw := hW.pw
      rw [hno 22 (by omega) (by decide)] at hpw
      refine wp_of_run (exec_load_d hop.symm (hS.has 11 67 (ready_dep hd 11 hi (by decide)) rfl) hpw.c1) ?_
      exact ⟨hsz', hcl', x1, x2, g1, k1, g2, k2, hS.step hs (by rw [← hdst]; rfl) (.inr (by simp [val15])) (fun _ _ _ => rfl), by rw [getD_set_other (i := 12) (show 7 ≠ 12 by decide), getD_set_other (i := 12) (show 8 ≠ 12 by decide), getD_set_other (i := 12) (show 15 ≠ 12 by decide), getD_set_other (i := 12) (show 16 ≠ 12 by decide), getD_set_other (i := 12) (show 19 ≠ 12 by decide), getD_set_other (i := 12) (show 22 ≠ 12 by decide)]; exact hW⟩
    · simp only [core15, List.getElem?_cons_succ, List.getElem?_cons_zero, Option.some.injEq, Prod.mk.injEq] at hcore
      obtain ⟨hdst, hop, hg⟩ := hcore
      refine wpOp_plain ho hg.symm ?_
      refine wp_of_run (exec_move hop.symm _ _) ?_
      rw [E8]
      exact ⟨hsz', hcl', x1, x2, g1, k1, g2, k2, hS.step hs (by rw [← hdst]; rfl) (.inr (by simp [val15])) (fun _ _ _ => rfl), by rw [getD_set_other (i := 13) (show 7 ≠ 13 by decide), getD_set_other (i := 13) (show 8 ≠ 13 by decide), getD_set_other (i := 13) (show 15 ≠ 13 by decide), getD_set_other (i := 13) (show 16 ≠ 13 by decide), getD_set_other (i := 13) (show 19 ≠ 13 by decide), getD_set_other (i := 13) (show 22 ≠ 13 by decide)]; exact hW⟩
    · simp only [core15, List.getElem?_cons_succ, List.getElem?_cons_zero, Option.some.injEq, Prod.mk.injEq] at hcore
      obtain ⟨hdst, hop, hg⟩ := hcore
      refine wpOp_plain ho hg.symm ?_
      refine wp_of_run (exec_add1 hop.symm (hS.has 13 69 (ready_dep hd 13 hi (by decide)) rfl) rfl d0 d1) ?_
      exact ⟨hsz', hcl', x1, x2, g1, k1, g2, k2, hS.step hs (by rw [← hdst]; rfl) (.inr (by simp [val15])) (fun _ _ _ => rfl), by rw [getD_set_other (i := 14) (show 7 ≠ 14 by decide), getD_set_other (i := 14) (show 8 ≠ 14 by decide), getD_set_other (i := 14) (show 15 ≠ 14 by decide), getD_set_other (i := 14) (show 16 ≠ 14 by decide), getD_set_other (i := 14) (show 19 ≠ 14 by decide), getD_set_other (i := 14) (show 22 ≠ 14 by decide)]; exact hW⟩
    · simp only [core15, List.getElem?_cons_succ, List.getElem?_cons_zero, Option.some.injEq, Prod.mk.injEq] at hcore
      obtain ⟨hdst, hop, hg⟩ := hcore
      refine wpOp_plain ho hg.symm ?_
      refine wp_of_run (exec_build_d hop.symm (hS.has 14 70 (ready_dep hd 14 hi (by decide)) rfl)) ?_
      have hpw := hW.pw
      refine ⟨hsz', hcl', x1, X.heap.size, g1, k1, g2, k2, hS.step hs (by rw [← hdst]; rfl) (.inr (by simp [val15])) (fun j hj _ => by simp [val15, hj]), ?_⟩
      rw [getD_set_other (i := 15) (show 7 ≠ 15 by decide), getD_set_other (i := 15) (show 8 ≠ 15 by decide), getD_set_other (i := 15) (show 16 ≠ 15 by decide), getD_set_other (i := 15) (show 19 ≠ 15 by decide), getD_set_other (i := 15) (show 22 ≠ 15 by decide)]
      exact ⟨hpw.alloc _, fun h1 h2 => ⟨(hW.n1 h1 h2).1, (Below.heap_alloc _ _ _ (Array.getElem?_eq_some_iff.1 (hW.n1 h1 h2).2).1).trans (hW.n1 h1 h2).2⟩, fun _ _ => ⟨hpw.size, heap_at rfl⟩⟩
    · simp only [core15, List.getElem?_cons_succ, List.getElem?_cons_zero, Option.some.injEq, Prod.mk.injEq] at hcore
      obtain ⟨hdst, hop, hg⟩ := hcore
      refine wpOp_plain ho hg.symm ?_
      have hpw := hW.pw
      have h8 := ready_dep hd 8 hi (by decide)
      rw [hf, hno 19 (by omega) (by decide), h8, hno 22 (by omega) (by decide)] at hpw
      have hn2 := hW.n2 (ready_dep hd 15 hi (by decide)) hf
      have key := step_d (ops := ops) (a := a) (K := fun a' w' => I15 W b lb db mb m (.slice (some ⟨lb, 0, none⟩) n lc) n xs (.slice (some ⟨db, 0, none⟩) nd dc) nd ds t d a0 (listed.setIfInBounds 16 true) a' w') (Q := Q) (E := True) hg.symm (.tmp 68) (.tmp 71) hop.symm (d + 1) x2 hpw (hS.has 12 68 (ready_dep hd 12 hi (by decide)) rfl) (hS.has 15 71 (ready_dep hd 15 hi (by decide)) rfl) hn2.2 hnd ?_
      · rw [if_pos (by simp [Region.wanted, ← hg])] at key; exact key
      · intro g cap X' hp' hkeep hsize
        refine ⟨hsz', hcl', x1, x2, g1, k1, g, cap, hS.step hs (by rw [← hdst]; rfl) (.inr (by simp [val15])) (fun j hj _ => by simp [val15, hj]), ?_⟩
        rw [getD_set_other (i := 16) (show 7 ≠ 16 by decide), getD_set_other (i := 16) (show 8 ≠ 16 by decide), getD_set_other (i := 16) (show 15 ≠ 16 by decide), getD_set_other (i := 16) (show 19 ≠ 16 by decide), getD_set_other (i := 16) (show 22 ≠ 16 by decide), hself, hno 19 (by omega) (by decide), h8, hno 22 (by omega) (by decide)]
        exact ⟨hp', (fun _ h => by cases h), (fun _ h => by cases h)⟩
    · simp only [core15, List.getElem?_cons_succ, List.getElem?_cons_zero, Option.some.injEq, Prod.mk.injEq] at hcore
      obtain ⟨hdst, hop, hg⟩ := hcore
      refine wpOp_plain ho hg.symm ?_
      refine wp_of_run (exec_nil hop.symm (hS.has 0 56 (ready_dep hd 0 hi (by decide)) rfl) _ _) ?_
      exact ⟨hsz', hcl', x1, x2, g1, k1, g2, k2, hS.step hs (by rw [← hdst]; rfl) (.inr (by simp [val15])) (fun _ _ _ => rfl), by rw [getD_set_other (i := 17) (show 7 ≠ 17 by decide), getD_set_other (i := 17) (show 8 ≠ 17 by decide), getD_set_other (i := 17) (show 15 ≠ 17 by decide), getD_set_other (i := 17) (show 16 ≠ 17 by decide), getD_set_other (i := 17) (show 19 ≠ 17 by decide), getD_set_other (i := 17) (show 22 ≠ 17 by decide)]; exact hW⟩
    · simp only [core15, List.getElem?_cons_succ, List.getElem?_cons_zero, Option.some.injEq, Prod.mk.injEq] at hcore
      obtain ⟨hdst, hop, hg⟩ := hcore
      refine wpOp_plain ho hg.symm ?_
      refine wp_of_run (exec_fa0 hop.symm (hS.has 17 73 (ready_dep hd 17 hi (by decide)) rfl) _) ?_
      exact ⟨hsz', hcl', x1, x2, g1, k1, g2, k2, hS.step hs (by rw [← hdst]; rfl) (.inr (by simp [val15])) (fun _ _ _ => rfl), by rw [getD_set_other (i := 18) (show 7 ≠ 18 by decide), getD_set_other (i := 18) (show 8 ≠ 18 by decide), getD_set_other (i := 18) (show 15 ≠ 18 by decide), getD_set_other (i := 18) (show 16 ≠ 18 by decide), getD_set_other (i := 18) (show 19 ≠ 18 by decide), getD_set_other (i := 18) (show 22 ≠ 18 by decide)]; exact hW⟩
    · simp only [core15, List.getElem?_cons_succ, List.getElem?_cons_zero, Option.some.injEq, Prod.mk.injEq] at hcore
      obtain ⟨hdst, hop, hg⟩ := hcore
      refine wpOp_plain ho hg.symm ?_
      have hpw := hW.pw
      have h8 := ready_dep hd 8 hi (by decide)
      have h16 := ready_dep hd 16 hi (by decide)
      refine wp_of_skip (exec_store_l hop.symm (hS.has 18 74 (ready_dep hd 18 hi (by decide)) rfl) (hS.has 8 64 (ready_dep hd 8 hi (by decide)) rfl) hpw.c0 hpw.f0) ?_
      refine ⟨hsz', hcl', x1, x2, g1, k1, g2, k2, hS.step hs (by rw [← hdst]; rfl) (.inl rfl) (fun _ _ _ => rfl), ?_⟩
      rw [getD_set_other (i := 19) (show 7 ≠ 19 by decide), getD_set_other (i := 19) (show 8 ≠ 19 by decide), getD_set_other (i := 19) (show 15 ≠ 19 by decide), getD_set_other (i := 19) (show 16 ≠ 19 by decide), getD_set_other (i := 19) (show 22 ≠ 19 by decide), hself]
      exact ⟨hpw.store0 _, (fun _ h => by rw [h8] at h; cases h), (fun _ h => by rw [h16] at h; cases h)⟩
    · simp only [core15, List.getElem?_cons_succ, List.getElem?_cons_zero, Option.some.injEq, Prod.mk.injEq] at hcore
      obtain ⟨hdst, hop, hg⟩ := hcore
      refine wpOp_plain ho hg.symm ?_
      refine wp_of_run (exec_nil hop.symm (hS.has 1 57 (ready_dep hd 1 hi (by decide)) rfl) _ _) ?_
      exact ⟨hsz', hcl', x1, x2, g1, k1, g2, k2, hS.step hs (by rw [← hdst]; rfl) (.inr (by simp [val15])) (fun _ _ _ => rfl), by rw [getD_set_other (i := 20) (show 7 ≠ 20 by decide), getD_set_other (i := 20) (show 8 ≠ 20 by decide), getD_set_other (i := 20) (show 15 ≠ 20 by decide), getD_set_other (i := 20) (show 16 ≠ 20 by decide), getD_set_other (i := 20) (show 19 ≠ 20 by decide), getD_set_other (i := 20) (show 22 ≠ 20 by decide)]; exact hW⟩
    · simp only [core15, List.getElem?_cons_succ, List.getElem?_cons_zero, Option.some.injEq, Prod.mk.injEq] at hcore
      obtain ⟨hdst, hop, hg⟩ := hcore
      refine wpOp_plain ho hg.symm ?_
      refine wp_of_run (exec_fa1 hop.symm (hS.has 20 75 (ready_dep hd 20 hi (by decide)) rfl) _) ?_
      exact ⟨hsz', hcl', x1, x2, g1, k1, g2, k2, hS.step hs (by rw [← hdst]; rfl) (.inr (by simp [val15])) (fun _ _ _ => rfl), by rw [getD_set_other (i := 21) (show 7 ≠ 21 by decide), getD_set_other (i := 21) (show 8 ≠ 21 by decide), getD_set_other (i := 21) (show 15 ≠ 21 by decide), getD_set_other (i := 21) (show 16 ≠ 21 by decide), getD_set_other (i := 21) (show 19 ≠ 21 by decide), getD_set_other (i := 21) (show 22 ≠ 21 by decide)]; exact hW⟩
    · simp only [core15, List.getElem?_cons_succ, List.getElem?_cons_zero, Option.some.injEq, Prod.mk.injEq] at hcore
      obtain ⟨hdst, hop, hg⟩ := hcore
      refine wpOp_plain ho hg.symm ?_
      have hpw := hW.pw
      have h8 := ready_dep hd 8 hi (by decide)
      have h16 := ready_dep hd 16 hi (by decide)
      refine wp_of_skip (exec_store_d hop.symm (hS.has 21 76 (ready_dep hd 21 hi (by decide)) rfl) (hS.has 16 72 (ready_dep hd 16 hi (by decide)) rfl) hpw.c1 hpw.f1) ?_
      refine ⟨hsz', hcl', x1, x2, g1, k1, g2, k2, hS.step hs (by rw [← hdst]; rfl) (.inl rfl) (fun _ _ _ => rfl), ?_⟩
      rw [getD_set_other (i := 22) (show 7 ≠ 22 by decide), getD_set_other (i := 22) (show 8 ≠ 22 by decide), getD_set_other (i := 22) (show 15 ≠ 22 by decide), getD_set_other (i := 22) (show 16 ≠ 22 by decide), getD_set_other (i := 22) (show 19 ≠ 22 by decide), hself]
      exact ⟨hpw.store1 _, (fun _ h => by rw [h8] at h; cases h), (fun _ h => by rw [h16] at h; cases h)⟩
  · intro listed a X ⟨hsz, hcl, x1, x2, g1, k1, g2, k2, hS, hW⟩ hr
    have hall := all_listed hd hsz hr
    have hpw := hW.pw
    rw [hall 8 (by omega), hall 16 (by omega), hall 19 (by omega), hall 22 (by omega)] at hpw
    exact hQ a X g1 k1 g2 k2 hS.size hS.defers hS.rest hpw
end Go.Proofs.Ytpcfmafokkffgaa
