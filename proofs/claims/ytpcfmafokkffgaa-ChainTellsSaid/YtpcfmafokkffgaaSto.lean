/-
  A store of package term in memory: its header, its terms, their depths, their names: as the plain list L with room for m. For every L, m.
-/
import Derived.Test.YtpcfmafokkffgaaTermB
namespace Go.Proofs.Ytpcfmafokkffgaa
open Go.RowKit

def T.cells (t : T) : List Value := [.int .i64 t.k, .string t.s, .int .u64 t.n, .int .i64 t.a, .int .i64 t.b, .int .i64 t.c]
def cellsOf (L : List T) : List Value := L.flatMap T.cells

/-- The entries of the map of names. -/
def Names (es : Array MapEntry) (L : List T) : Prop :=
  es.toList.map (fun e => (e.key, e.val)) = L.mapIdx fun i t => (T.val t, .int .i64 (i + 1))

def stoHead (lb db mb lc dc : Nat) (n : Nat) (m : Int) : Obj :=
  .cells #[.slice (some ⟨lb, 0, none⟩) n lc, .slice (some ⟨db, 0, none⟩) n dc, .map (some mb), .int .i64 m] 118 (0, 0)

structure StoOk (b lb db mb lc dc : Nat) (lcur dcur : Array Value) (es : Array MapEntry) (L : List T) (m : Int) : Prop where
  good : Good L
  m0 : 0 ≤ m
  m1 : m ≤ 1048576
  len : (L.length : Int) ≤ m
  apart : b ≠ lb ∧ b ≠ db ∧ b ≠ mb ∧ lb ≠ db ∧ lb ≠ mb ∧ db ≠ mb
  lsize : lcur.size = lc * 6
  lcap : L.length + 1 ≤ lc
  lmax : lc ≤ maxLen
  lcells : lcur.toList.take ((L.length + 1) * 6) = cellsOf (zeroT :: L)
  dsize : dcur.size = dc
  dcap : L.length + 1 ≤ dc
  dmax : dc ≤ maxLen
  dcells : dcur.toList.take (L.length + 1) = ints (depths L)
  names : Names es L

def stoFrag (b lb db mb lc dc ck : Nat) (lcur dcur : Array Value) (es : Array MapEntry) (n : Nat) (m : Int) : Frag := fun k =>
  if k = b then some (stoHead lb db mb lc dc n m) else if k = lb then some (.cells lcur 47 (0, 0))
  else if k = db then some (.cells dcur 3 (0, 0)) else if k = mb then some (.map es ck) else none

theorem stoFrag_in {b lb db mb lc dc ck : Nat} {lcur dcur : Array Value} {es : Array MapEntry} {n : Nat} {m : Int} {w : World} (h0 : w.heap[b]? = some (stoHead lb db mb lc dc n m)) (h1 : w.heap[lb]? = some (.cells lcur 47 (0, 0)))
    (h2 : w.heap[db]? = some (.cells dcur 3 (0, 0))) (h3 : w.heap[mb]? = some (.map es ck)) : FragIn (stoFrag b lb db mb lc dc ck lcur dcur es n m) w := by
  intro k o hk
  unfold stoFrag at hk
  split at hk
  · rename_i e; subst e; rw [h0]; exact hk
  · split at hk
    · rename_i e; subst e; rw [h1]; exact hk
    · split at hk
      · rename_i e; subst e; rw [h2]; exact hk
      · split at hk
        · rename_i e; subst e; rw [h3]; exact hk
        · cases hk

theorem stoFrag_at {b lb db mb lc dc ck : Nat} {lcur dcur : Array Value} {es : Array MapEntry} {n : Nat} {m : Int} {k : Nat} (h : stoFrag b lb db mb lc dc ck lcur dcur es n m k ≠ none) : k = b ∨ k = lb ∨ k = db ∨ k = mb := by
  unfold stoFrag at h
  split at h
  · exact .inl ‹_›
  · split at h
    · exact .inr (.inl ‹_›)
    · split at h
      · exact .inr (.inr (.inl ‹_›))
      · split at h
        · exact .inr (.inr (.inr ‹_›))
        · exact absurd rfl h

def Sto (b : Nat) (L : List T) (m : Int) : Res := fun f =>
  ∃ lb db mb lc dc ck lcur dcur es, f = stoFrag b lb db mb lc dc ck lcur dcur es (L.length + 1) m ∧ StoOk b lb db mb lc dc lcur dcur es L m

/-- What the walk reads of it. -/
structure StoAt (w : World) (b : Nat) (L : List T) (m : Int) (lb db mb lc dc : Nat) : Prop where
  good : Good L
  m0 : 0 ≤ m
  m1 : m ≤ 1048576
  len : (L.length : Int) ≤ m
  c0 : w.cell? ⟨b, 0, none⟩ = some (.slice (some ⟨lb, 0, none⟩) (L.length + 1) lc)
  c1 : w.cell? ⟨b, 1, none⟩ = some (.slice (some ⟨db, 0, none⟩) (L.length + 1) dc)
  c2 : w.cell? ⟨b, 2, none⟩ = some (.map (some mb))
  c3 : w.cell? ⟨b, 3, none⟩ = some (.int .i64 m)
  fz : ∀ j, w.frozen? ⟨b, j, none⟩ = false
  cl : ∀ (i : Nat) (t : T), (zeroT :: L)[i]? = some t → ∀ j v, t.cells[j]? = some v → w.cell? ⟨lb, i * 6 + j, none⟩ = some v
  cd : ∀ (i : Nat), i ≤ L.length → w.cell? ⟨db, i, none⟩ = some (.int .i64 ((depths L).getD i 0))
  lt : b < w.heap.size
  llt : lb < w.heap.size
  dlt : db < w.heap.size
  mlt : mb < w.heap.size
  hm : ∃ es ck, w.heap[mb]? = some (.map es ck) ∧ Names es L

theorem cellsOf_get {L : List T} {i : Nat} {t : T} (h : L[i]? = some t) {j : Nat} {v : Value} (hj : t.cells[j]? = some v) : (cellsOf L)[i * 6 + j]? = some v := by
  induction L generalizing i with
  | nil => simp at h
  | cons u L ih =>
    have hlt : j < 6 := by have := (List.getElem?_eq_some_iff.1 hj).1; simpa [T.cells] using this
    cases i with
    | zero =>
      simp only [List.getElem?_cons_zero, Option.some.injEq] at h
      subst h
      simp only [cellsOf, List.flatMap_cons, Nat.zero_mul, Nat.zero_add]
      rw [List.getElem?_append_left (by simpa [T.cells] using hlt)]
      exact hj
    | succ i =>
      simp only [List.getElem?_cons_succ] at h
      have := ih h
      simp only [cellsOf, List.flatMap_cons]
      rw [List.getElem?_append_right (by simp [T.cells]; omega)]
      have e : (i + 1) * 6 + j - u.cells.length = i * 6 + j := by simp [T.cells]; omega
      rw [e]; exact this

theorem cellsOf_length (L : List T) : (cellsOf L).length = L.length * 6 := by
  induction L with
  | nil => rfl
  | cons u L ih => simp only [cellsOf, List.flatMap_cons, List.length_append, List.length_cons] at *; rw [ih]; simp [T.cells]; omega

theorem get_of_take {l k : List Value} {n j : Nat} {v : Value} (h : l.take n = k) (hj : k[j]? = some v) : l[j]? = some v := by
  subst h
  rw [List.getElem?_take] at hj
  split at hj
  · exact hj
  · cases hj

theorem stoAt_of {w : World} {b lb db mb lc dc ck : Nat} {lcur dcur : Array Value} {es : Array MapEntry} {L : List T} {m : Int} (hf : FragIn (stoFrag b lb db mb lc dc ck lcur dcur es (L.length + 1) m) w)
    (h : StoOk b lb db mb lc dc lcur dcur es L m) : StoAt w b L m lb db mb lc dc := by
  obtain ⟨a1, a2, a3, a4, a5, a6⟩ := h.apart
  have h0 : w.heap[b]? = some (stoHead lb db mb lc dc (L.length + 1) m) := hf b _ (by simp [stoFrag])
  have h1 : w.heap[lb]? = some (.cells lcur 47 (0, 0)) := hf lb _ (by simp [stoFrag, Ne.symm a1])
  have h2 : w.heap[db]? = some (.cells dcur 3 (0, 0)) := hf db _ (by simp [stoFrag, Ne.symm a2, Ne.symm a4])
  have h3 : w.heap[mb]? = some (.map es ck) := hf mb _ (by simp [stoFrag, Ne.symm a3, Ne.symm a5, Ne.symm a6])
  refine ⟨h.good, h.m0, h.m1, h.len, by rw [cell_of_heap h0]; rfl, by rw [cell_of_heap h0]; rfl, by rw [cell_of_heap h0]; rfl, by rw [cell_of_heap h0]; rfl, fun j => frozen_of_heap h0 j, ?_, ?_, (Array.getElem?_eq_some_iff.1 h0).1, (Array.getElem?_eq_some_iff.1 h1).1, (Array.getElem?_eq_some_iff.1 h2).1, (Array.getElem?_eq_some_iff.1 h3).1, es, ck, h3, h.names⟩
  · intro i t hi j v hj
    rw [cell_of_heap h1, ← Array.getElem?_toList]
    exact get_of_take h.lcells (cellsOf_get hi hj)
  · intro i hi
    rw [cell_of_heap h2, ← Array.getElem?_toList]
    refine get_of_take h.dcells ?_
    have hlt : i < (depths L).length := by rw [depths_length]; omega
    simp [ints, List.getElem?_eq_getElem hlt, List.getD]

theorem Hd.sto {W w : World} {b : Nat} {L : List T} {m : Int} {Rs : List Res} (h : Hd W w (Sto b L m :: Rs)) : ∃ lb db mb lc dc, StoAt w b L m lb db mb lc dc := by
  obtain ⟨f, ⟨lb, db, mb, lc, dc, ck, lcur, dcur, es, rfl, hok⟩, hf, _⟩ := h.open
  exact ⟨lb, db, mb, lc, dc, stoAt_of hf hok⟩

set_option maxHeartbeats 400000 in
theorem len_calls' {b : Nat} {L : List T} {m : Int} {lb db mb lc dc : Nat} {w : World} (h : StoAt w b L m lb db mb lc dc) :
    Calls Try.prog 18 #[.pointer (some ⟨b, 0, none⟩)] w fun e w' => e = .returned (.int .i64 L.length) ∧ w = w' := by
  have h0 := h.c0
  have h1 : L.length ≤ 1048576 := by have := h.m1; have := h.len; omega
  clear h
  go_enter Try.func18, Try.ntmps18
  go_wp2
  go_ret
  exact ⟨by first | rfl | (congr 2; omega), rfl⟩
end Go.Proofs.Ytpcfmafokkffgaa
