/-
  A mind's rows as they fill: one term more. For every list of terms.
-/
import Derived.Test.YtbaliaodioflfaaKnowR
namespace Go.Proofs.Ytbaliaodioflfaa
open Go.RowKit

theorem cells_set6 (t : T) : ∀ (rows : List T) (q : Nat), q < rows.length →
    ((((((cellsOf rows).set (q * 6) (.int .i64 t.k)).set (q * 6 + 1) (.string t.s)).set (q * 6 + 2) (.int .u64 t.n)).set (q * 6 + 3) (.int .i64 t.a)).set (q * 6 + 4) (.int .i64 t.b)).set (q * 6 + 5) (.int .i64 t.c) = cellsOf (rows.set q t)
  | [], q, h => by simp at h
  | u :: rows, 0, _ => by simp [cellsOf, T.cells]
  | u :: rows, q + 1, h => by
    have ih := cells_set6 t rows q (by simpa using h)
    have e : ∀ j, (q + 1) * 6 + j = (T.cells u).length + (q * 6 + j) := fun j => by simp [T.cells]; omega
    have e0 := e 0
    simp only [Nat.add_zero] at e0
    have key : ∀ (l : List Value) (i : Nat) (v : Value), (T.cells u ++ l).set ((T.cells u).length + i) v = T.cells u ++ l.set i v := fun l i v => by
      rw [List.set_append_right _ _ (by omega), Nat.add_sub_cancel_left]
    rw [e 1, e 2, e 3, e 4, e 5, e0]
    simp only [cellsOf, List.set_cons_succ, List.flatMap_cons] at ih ⊢
    rw [key, key, key, key, key, key, ih]
theorem row_set6 (t : T) (rows : List T) (q : Nat) (h : q < rows.length) :
    ((((((cellsOf rows).toArray.setIfInBounds (q * 6) (.int .i64 t.k)).setIfInBounds (q * 6 + 1) (.string t.s)).setIfInBounds (q * 6 + 2) (.int .u64 t.n)).setIfInBounds (q * 6 + 3) (.int .i64 t.a)).setIfInBounds (q * 6 + 4) (.int .i64 t.b)).setIfInBounds (q * 6 + 5) (.int .i64 t.c) = (cellsOf (rows.set q t)).toArray := by
  rw [← cells_set6 t rows q h]
  simp

/-- The row of terms when so many are there. -/
def rowsT (L : List T) (N q : Nat) : List T := (zeroT :: L.take (q - 1)) ++ List.replicate (N - q) zeroT
theorem rowsT_length {L : List T} {N q : Nat} (hN : N = L.length + 1) (h1 : 1 ≤ q) (h2 : q ≤ N) : (rowsT L N q).length = N := by
  simp [rowsT]; omega
theorem rowsT_start (L : List T) (N : Nat) (hN : 1 ≤ N) : List.replicate N zeroT = rowsT L N 1 := by
  obtain ⟨n, rfl⟩ : ∃ n, N = n + 1 := ⟨N - 1, by omega⟩
  simp [rowsT, List.replicate_succ]
theorem rowsT_end (L : List T) (N : Nat) (hN : N = L.length + 1) : rowsT L N N = zeroT :: L := by
  subst hN; simp [rowsT]
theorem take_succ_at {L : List T} {q : Nat} {t : T} (hat : At L (q : Int) t) : L.take q = L.take (q - 1) ++ [t] := by
  have h1 := hat.lo
  obtain ⟨n, rfl⟩ : ∃ n, q = n + 1 := ⟨q - 1, by omega⟩
  have := hat.is
  have e : (((n + 1 : Nat) : Int) - 1).toNat = n := by omega
  rw [e] at this
  rw [List.take_add_one, this]
  simp
theorem rowsT_step {L : List T} {N q : Nat} {t : T} (hN : N = L.length + 1) (h1 : 1 ≤ q) (h2 : q < N) (hat : At L (q : Int) t) : (rowsT L N q).set q t = rowsT L N (q + 1) := by
  unfold rowsT
  have hl : (zeroT :: L.take (q - 1)).length = q := by simp; omega
  rw [List.set_append_right _ _ (by omega), hl, Nat.sub_self, show N - q = (N - (q + 1)) + 1 by omega, List.replicate_succ, List.set_cons_zero, Nat.add_sub_cancel, take_succ_at hat]
  simp
theorem rowsT_at {L : List T} {N q : Nat} (h1 : 1 ≤ q) (h2 : q < N) (hN : N = L.length + 1) : (rowsT L N q)[q]? = some zeroT := by
  unfold rowsT
  rw [List.getElem?_append_right (by simp; omega)]
  have : (zeroT :: L.take (q - 1)).length = q := by simp; omega
  rw [this, Nat.sub_self, List.getElem?_replicate]
  simp; omega

theorem nm_snoc {M : List T} {t u : T} (hn : t ∉ M) : nm (M ++ [t]) u = if u = t then (M.length : Int) + 1 else nm M u := by
  have key : ∀ (M : List T), t ∉ M → find u (M ++ [t]) = if u = t then some M.length else find u M := by
    intro M
    induction M with
    | nil =>
      intro _
      simp only [List.nil_append, find]
      by_cases e : u = t
      · rw [if_pos e, if_pos e.symm]; rfl
      · rw [if_neg e, if_neg (fun h => e h.symm)]; rfl
    | cons x M ih =>
      intro hx
      have h1 : x ≠ t := fun e => hx (by simp [e])
      simp only [List.cons_append, find, ih (fun h => hx (by simp [h]))]
      by_cases e : u = t
      · rw [if_pos e, if_pos e, if_neg (fun h => h1 (h.trans e))]; simp
      · rw [if_neg e, if_neg e]
  unfold nm
  rw [key M hn]
  by_cases e : u = t
  · rw [if_pos e, if_pos e]
  · rw [if_neg e, if_neg e]

theorem may_pub3 {t : T} {len : Int} (h : t.may len) (hk : t.k = 3) : t = pubT t.a := by
  have := h.2.2.1
  rw [this]
  simp [T.only, hk, many, pubT]
theorem may_kpu5 {t : T} {len : Int} (h : t.may len) (hk : t.k = 5) : t = kpuT t.a := by
  have := h.2.2.1
  rw [this]
  simp [T.only, hk, many, kpuT]
theorem may_box6 {t : T} {len : Int} (h : t.may len) (hk : t.k = 6) : t = boxT t.a t.b := by
  have := h.2.2.1
  rw [this]
  simp [T.only, hk, many, boxT]

theorem ints_set (xs : List Int) (i : Nat) (v : Int) : (ints xs).toArray.setIfInBounds i (.int .i64 v) = (ints (xs.set i v)).toArray := by
  simp [ints, List.map_set]
theorem pubs_start (N : Nat) : pubs [] N = List.replicate N 0 := by
  apply List.ext_getElem?
  intro i
  simp only [pubs, List.getElem?_map, List.getElem?_replicate]
  by_cases h : i < N
  · simp [h, nm, find]
  · simp [h]
theorem kpus_start (N : Nat) : kpus [] N = List.replicate N 0 := by
  apply List.ext_getElem?
  intro i
  simp only [kpus, List.getElem?_map, List.getElem?_replicate]
  by_cases h : i < N
  · simp [h, nm, find]
  · simp [h]
theorem pubs_same {M : List T} {t : T} {N : Nat} (hn : t ∉ M) (hk : t.k ≠ 3) : pubs (M ++ [t]) N = pubs M N := by
  unfold pubs
  refine List.map_congr_left fun i _ => ?_
  rw [nm_snoc hn, if_neg (fun e => hk (by rw [← e]; rfl))]
theorem kpus_same {M : List T} {t : T} {N : Nat} (hn : t ∉ M) (hk : t.k ≠ 5) : kpus (M ++ [t]) N = kpus M N := by
  unfold kpus
  refine List.map_congr_left fun i _ => ?_
  rw [nm_snoc hn, if_neg (fun e => hk (by rw [← e]; rfl))]
theorem pubs_step {M : List T} {a N : Nat} (hn : pubT (a : Int) ∉ M) (_ha : a < N) : (pubs M N).set a ((M.length : Int) + 1) = pubs (M ++ [pubT (a : Int)]) N := by
  apply List.ext_getElem?
  intro i
  simp only [pubs, List.getElem?_set, List.length_map, List.length_range, List.getElem?_map]
  by_cases h : a = i
  · subst h
    rw [if_pos rfl]
    by_cases h : a < N
    · simp [h, nm_snoc hn]
    · simp [h]
  · rw [if_neg h]
    by_cases h2 : i < N
    · simp only [List.getElem?_range h2, Option.map_some]
      rw [nm_snoc hn, if_neg (fun e => h (by have := congrArg T.a e; simp only [pubT] at this; omega))]
    · simp [h2]
theorem kpus_step {M : List T} {a N : Nat} (hn : kpuT (a : Int) ∉ M) (_ha : a < N) : (kpus M N).set a ((M.length : Int) + 1) = kpus (M ++ [kpuT (a : Int)]) N := by
  apply List.ext_getElem?
  intro i
  simp only [kpus, List.getElem?_set, List.length_map, List.length_range, List.getElem?_map]
  by_cases h : a = i
  · subst h
    rw [if_pos rfl]
    by_cases h : a < N
    · simp [h, nm_snoc hn]
    · simp [h]
  · rw [if_neg h]
    by_cases h2 : i < N
    · simp only [List.getElem?_range h2, Option.map_some]
      rw [nm_snoc hn, if_neg (fun e => h (by have := congrArg T.a e; simp only [kpuT] at this; omega))]
    · simp [h2]

/-- The boxes so far. -/
structure BoxIn (es : Array MapEntry) (bs : List (Int × Int × Int)) (M : List T) : Prop where
  rows : es.toList.map (fun e => (e.key, e.val)) = boxVals bs
  is : ∀ a b, boxB bs a b = nm M (boxT a b)
  pos : ∀ p ∈ bs, 1 ≤ p.2.2

theorem BoxIn.ok {es : Array MapEntry} {bs : List (Int × Int × Int)} {M : List T} (h : BoxIn es bs M) : BoxOk es M := ⟨bs, h.rows, h.is⟩
theorem boxIn_nil : BoxIn #[] [] [] := ⟨rfl, fun _ _ => rfl, fun p h => by simp at h⟩
theorem BoxIn.same {es : Array MapEntry} {bs : List (Int × Int × Int)} {M : List T} {t : T} (h : BoxIn es bs M) (hn : t ∉ M) (hk : t.k ≠ 6) : BoxIn es bs (M ++ [t]) :=
  ⟨h.rows, fun a b => by rw [h.is, nm_snoc hn, if_neg (fun e => hk (by rw [← e]; rfl))], h.pos⟩
theorem nm_zero {M : List T} {t : T} (hn : t ∉ M) : nm M t = 0 := by
  unfold nm; rw [find_none.2 hn]
theorem BoxIn.new {es : Array MapEntry} {bs : List (Int × Int × Int)} {M : List T} {a b : Int} (h : BoxIn es bs M) (hn : boxT a b ∉ M) : (bs.find? fun p => decide (p.1 = a ∧ p.2.1 = b)) = none := by
  have := h.is a b
  rw [nm_zero hn] at this
  unfold boxB at this
  cases hf : bs.find? fun p => decide (p.1 = a ∧ p.2.1 = b) with
  | none => rfl
  | some p =>
    rw [hf] at this
    dsimp only at this
    have := h.pos p (List.mem_of_find?_eq_some hf)
    omega
theorem BoxIn.step {es : Array MapEntry} {bs : List (Int × Int × Int)} {M : List T} {a b : Int} {ck : Nat} (h : BoxIn es bs M) (hn : boxT a b ∉ M) :
    BoxIn (es.push { key := .agg #[.int .i64 a, .int .i64 b], val := .int .i64 ((M.length : Int) + 1), born := ck }) (bs ++ [(a, b, (M.length : Int) + 1)]) (M ++ [boxT a b]) := by
  refine ⟨?_, fun a' b' => ?_, fun p hp => ?_⟩
  · have := h.rows
    simp only [boxVals] at this ⊢
    simp [this]
  · have hnew := h.new hn
    have his := h.is a' b'
    rw [nm_snoc hn, ← his]
    unfold boxB
    rw [List.find?_append]
    by_cases e : a' = a ∧ b' = b
    · obtain ⟨rfl, rfl⟩ := e
      rw [hnew, if_pos rfl]
      simp
    · have e2 : ¬ (boxT a' b' = boxT a b) := fun h => e ⟨by simpa [boxT] using congrArg T.a h, by simpa [boxT] using congrArg T.b h⟩
      rw [if_neg e2]
      cases hf : bs.find? fun p => decide (p.1 = a' ∧ p.2.1 = b') with
      | some p => simp
      | none =>
        have e3 : ¬ (a = a' ∧ b = b') := fun h => e ⟨h.1.symm, h.2.symm⟩
        simp [e3]
  · rcases List.mem_append.1 hp with hp | hp
    · exact h.pos p hp
    · simp at hp; subst hp; dsimp only; omega

/-- A map's block of the call's own. -/
theorem Hd.setMap {W w : World} {Rs : List Res} {k : Nat} {o : Obj} (o' : Obj) (h : Hd W w (Blk k o :: Rs)) : Hd W (setMap w k o') (Blk k o' :: Rs) := by
  have hb := h.blk
  obtain ⟨f, hR, hf, hlt, hshut⟩ := h.open
  have hRf : f = fun i => if i = k then some o else none := hR
  subst hRf
  have hk := (Array.getElem?_eq_some_iff.1 hb).1
  refine hshut _ _ (fun i => if i = k then some o' else none) rfl (fun i o2 hi => ?_) (fun i hi => ?_) rfl rfl rfl (by simp [Go.Proofs.Ytbaliaodioflfaa.setMap]) (fun i hi hi2 => ?_)
  · dsimp only at hi
    split at hi
    · rename_i e; subst e
      simp only [Option.some.injEq] at hi
      subst hi
      simp [Go.Proofs.Ytbaliaodioflfaa.setMap, hk]
    · cases hi
  · split at hi
    · rename_i e; subst e; exact .inl (by simp)
    · exact absurd rfl hi
  · have : k ≠ i := fun e => by subst e; simp at hi2
    simp [Go.Proofs.Ytbaliaodioflfaa.setMap, Array.getElem?_setIfInBounds_ne this]

/-- The marks of those that are known. -/
structure MarksOf (N : Nat) (ks : List Int) (j : Nat) (cs : List Bool) : Prop where
  len : cs.length = N
  is : ∀ x, on cs x = true ↔ x ∈ ks.take j
  inn : ∀ x ∈ ks.take j, 1 ≤ x ∧ x < N
theorem on_false (N : Nat) (x : Int) : on (List.replicate N false) x = false := by
  unfold on
  simp only [List.getD_eq_getElem?_getD, List.getElem?_replicate]
  split <;> rfl
theorem marksOf_start (N : Nat) (ks : List Int) : MarksOf N ks 0 (List.replicate N false) := ⟨by simp, fun x => by simp [on_false], fun x h => by simp at h⟩
theorem MarksOf.step {N : Nat} {ks : List Int} {j : Nat} {cs : List Bool} {x : Int} (h : MarksOf N ks j cs) (hx : ks[j]? = some x) (h1 : 1 ≤ x) (h2 : x < N) : MarksOf N ks (j + 1) (lrn cs x) := by
  have e : ks.take (j + 1) = ks.take j ++ [x] := by rw [List.take_add_one, hx]; rfl
  have hl := h.len
  refine ⟨by rw [lrn_length]; exact hl, fun y => ?_, fun y hy => ?_⟩
  · rw [e, List.mem_append, List.mem_singleton, ← h.is]
    by_cases h0 : 0 ≤ y
    · rw [on_lrn (by omega) (by omega) h0]
      simp only [Bool.or_eq_true, decide_eq_true_eq]
      exact ⟨fun h => h.imp id Eq.symm, fun h => h.imp id Eq.symm⟩
    · have e1 : y.toNat = (0 : Int).toNat := by omega
      have e2 : ∀ cs : List Bool, on cs y = on cs 0 := fun cs => by unfold on; rw [e1]
      rw [e2, e2, on_lrn (by omega) (by omega) (by omega)]
      simp only [Bool.or_eq_true, decide_eq_true_eq]
      constructor
      · rintro (h | h)
        · exact .inl h
        · omega
      · rintro (h | h)
        · exact .inl h
        · omega
  · rw [e, List.mem_append, List.mem_singleton] at hy
    rcases hy with hy | rfl
    · exact h.inn y hy
    · exact ⟨h1, h2⟩
theorem MarksOf.marks {L : List T} {N : Nat} {ks : List Int} {cs : List Bool} {dh kem : Bool} (hN : N = L.length + 1) (h : MarksOf N ks ks.length cs) : Marks L dh kem (fun x => x ∈ ks) cs := by
  have e : ks.take ks.length = ks := List.take_length
  have his := h.is
  rw [e] at his
  have hin := h.inn
  rw [e] at hin
  refine ⟨by rw [h.len, hN], ?_, fun x hx => .known x ((his x).1 hx), fun x hx => (his x).2 hx⟩
  cases h0 : on cs 0 with
  | false => rfl
  | true => have := hin 0 ((his 0).1 h0); omega
end Go.Proofs.Ytbaliaodioflfaa
