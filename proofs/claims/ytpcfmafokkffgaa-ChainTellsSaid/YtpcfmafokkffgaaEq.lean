/-
  When two terms are one, as the model compares them; the map of names: what is found in it, what is put into it. For every term, list and memory.
-/
import Derived.Test.YtpcfmafokkffgaaSto
namespace Go.Proofs.Ytpcfmafokkffgaa
open Go.RowKit

theorem bytes_eq {s s' : ByteArray} : s.toList = s'.toList ↔ s = s' := by
  constructor
  · intro h
    rw [ByteArray.toList_eq, ByteArray.toList_eq] at h
    obtain ⟨⟨x⟩⟩ := s
    obtain ⟨⟨y⟩⟩ := s'
    simp at h
    rw [h]
  · intro h; rw [h]

set_option maxHeartbeats 400000 in
theorem eqlIn_T (k n a b c k' n' a' b' c' : Int) (s s' : ByteArray) (w : World) :
    (Op.equalIn 10000 47 (.agg #[.int .i64 k, .string s, .int .u64 n, .int .i64 a, .int .i64 b, .int .i64 c]) (.agg #[.int .i64 k', .string s', .int .u64 n', .int .i64 a', .int .i64 b', .int .i64 c'])).run Try.prog w = .ok (decide ((⟨k, s, n, a, b, c⟩ : T) = ⟨k', s', n', a', b', c'⟩)) w := by
  go_simp
  simp only [bytes_eq]
  by_cases h1 : k = k' <;> by_cases h2 : s = s' <;> by_cases h3 : n = n' <;> by_cases h4 : a = a' <;> by_cases h5 : b = b' <;> by_cases h6 : c = c' <;> simp [h1, h2, h3, h4, h5, h6]

theorem equal_T (x y : T) (w : World) : (Op.equal 47 (T.val x) (T.val y)).run Try.prog w = .ok (decide (x = y)) w := by
  obtain ⟨k, s, n, a, b, c⟩ := x
  obtain ⟨k', s', n', a', b', c'⟩ := y
  exact eqlIn_T k n a b c k' n' a' b' c' s s' w

theorem neq_T (x y : T) (w : World) : (binOp .neq 47 (T.val x) (T.val y)).run Try.prog w = .ok (.bool (!decide (x = y))) w := by
  obtain ⟨k, s, n, a, b, c⟩ := x
  obtain ⟨k', s', n', a', b', c'⟩ := y
  rw [T.val, T.val, run_neq_struct, eqlIn_T]
  rfl

theorem eql_T (x y : T) (w : World) : (binOp .eql 47 (T.val x) (T.val y)).run Try.prog w = .ok (.bool (decide (x = y))) w := by
  obtain ⟨k, s, n, a, b, c⟩ := x
  obtain ⟨k', s', n', a', b', c'⟩ := y
  rw [T.val, T.val, run_eql_struct, eqlIn_T]
  rfl

/-- The key's own check. -/
theorem checkKey_T (x : T) (e : Bool) (w : World) : (Instr.checkKey e 10000 47 (T.val x)).run Try.prog w = .ok () w := by
  obtain ⟨k, s, n, a, b, c⟩ := x
  simp only [T.val]
  kernel_rfl

/-- The names of a list that begins behind so many. -/
def namesFrom : Nat → List T → List (Value × Value)
  | _, [] => []
  | i, t :: L => (T.val t, .int .i64 ((i : Int) + 1)) :: namesFrom (i + 1) L

theorem namesFrom_snoc (t : T) : ∀ (L : List T) (i : Nat), namesFrom i (L ++ [t]) = namesFrom i L ++ [(T.val t, .int .i64 ((i : Int) + L.length + 1))]
  | [], i => by simp [namesFrom]
  | u :: L, i => by
    simp only [List.cons_append, namesFrom, namesFrom_snoc t L (i + 1), List.length_cons]
    congr 4
    simp; omega

theorem names_eq (L : List T) : (L.mapIdx fun i t => (T.val t, Value.int .i64 ((i : Int) + 1))) = namesFrom 0 L := by
  have h : ∀ (L : List T) (k : Nat), (L.mapIdx fun i t => (T.val t, Value.int .i64 (((i + k : Nat) : Int) + 1))) = namesFrom k L := by
    intro L
    induction L with
    | nil => intro k; rfl
    | cons u L ih =>
      intro k
      rw [List.mapIdx_cons]
      have := ih (k + 1)
      simp only [namesFrom, Nat.zero_add]
      rw [← this]
      congr 1
      refine congrArg (fun f => List.mapIdx f L) ?_
      funext i t
      rw [show i + 1 + k = i + (k + 1) from by omega]
  simpa using h L 0

theorem findAsking_T (t : T) (w : World) : ∀ (es : List MapEntry) (L : List T) (i j : Nat), es.map (fun e => (e.key, e.val)) = namesFrom i L →
    (Instr.findAsking 47 (T.val t) es j).run Try.prog w = .ok ((find t L).map fun k => (j + k, .int .i64 ((i : Int) + k + 1))) w
  | [], L, i, j, h => by
    cases L with
    | nil => simp [Instr.findAsking, find]
    | cons u L => simp [namesFrom] at h
  | e :: es, L, i, j, h => by
    cases L with
    | nil => simp [namesFrom] at h
    | cons u L =>
      simp only [List.map_cons, namesFrom, List.cons.injEq, Prod.mk.injEq] at h
      obtain ⟨⟨h1, h2⟩, h3⟩ := h
      have ih := findAsking_T t w es L (i + 1) (j + 1) h3
      simp only [Instr.findAsking, Sem.run_bind, h1, equal_T, Result.andThen_ok, find]
      by_cases hu : t = u
      · subst hu
        simp [h2]
      · have hu' : ¬ u = t := fun e => hu e.symm
        simp only [hu, decide_false, Bool.false_eq_true, if_false, hu', ih]
        cases find t L with
        | none => rfl
        | some k =>
          simp only [Option.map_some, Result.ok.injEq, Option.some.injEq, Prod.mk.injEq, Value.int.injEq, true_and, and_true]
          constructor <;> omega

theorem findKey_T (t : T) (w : World) (es : Array MapEntry) (L : List T) (h : Names es L) :
    (Instr.findKey 47 (T.val t) es.toList).run Try.prog w = .ok ((find t L).map fun k => (k, .int .i64 ((k : Int) + 1))) w := by
  have h' : es.toList.map (fun e => (e.key, e.val)) = namesFrom 0 L := by rw [← names_eq]; exact h
  have hu : Try.prog.underlying 47 = some (.struct (Try.prog.fieldsOf 47)) := by kernel_rfl
  have key := findAsking_T t w es.toList L 0 0 h'
  simp only [Nat.zero_add, Int.natCast_zero, Int.zero_add] at key
  unfold Instr.findKey
  simp only [Sem.run_bind, run_underlying hu, Result.andThen_ok]
  cases hes : es.toList with
  | nil =>
    have : L = [] := by
      cases L with
      | nil => rfl
      | cons u L => rw [hes] at h'; simp [namesFrom] at h'
    subst this
    simp [Instr.findNow, find]
  | cons e es' =>
    rw [hes] at key h'
    obtain ⟨u, L', rfl⟩ : ∃ u L', L = u :: L' := by
      cases L with
      | nil => simp [namesFrom] at h'
      | cons u L => exact ⟨u, L, rfl⟩
    simp only [List.map_cons, namesFrom, List.cons.injEq, Prod.mk.injEq] at h'
    have : Instr.findNow (.struct (Try.prog.fieldsOf 47)) (T.val t) (e :: es') 0 = none := by
      simp only [Instr.findNow, Instr.sameNow]
    rw [this]
    exact key

theorem lookup_T (t : T) (w : World) {mb : Nat} {es : Array MapEntry} {ck : Nat} {L : List T} (hm : w.heap[mb]? = some (.map es ck)) (h : Names es L) :
    (Instr.lookup 116 (.map (some mb)) (T.val t) true).run Try.prog w = .ok (.tuple #[.int .i64 (match find t L with | some k => (k : Int) + 1 | none => 0), .bool (find t L).isSome]) w := by
  have hu : Try.prog.underlying 116 = some (.map 47 3) := by kernel_rfl
  have hz : ∀ w, (zeroValue 3).run Try.prog w = .ok (.int .i64 0) w := fun w => by kernel_rfl
  unfold Instr.lookup
  simp only [Sem.run_bind, run_underlying hu, Result.andThen_ok, getObj, Sem.run, hm, Sem.run_pure, checkKey_T, findKey_T t w es L h]
  cases find t L with
  | none => simp [hz]
  | some k => simp

/-- A map's block, written anew. -/
def setMap (w : World) (mb : Nat) (o : Obj) : World := { w with heap := w.heap.setIfInBounds mb o }

theorem mapUpdate_T (t : T) (v : Int) (w : World) {mb : Nat} {es : Array MapEntry} {ck : Nat} {L : List T} (hm : w.heap[mb]? = some (.map es ck)) (h : Names es L) (hn : find t L = none) :
    (Instr.mapUpdate 116 (.map (some mb)) (T.val t) (.int .i64 v)).run Try.prog w = .ok () (setMap w mb (.map (es.push { key := T.val t, val := .int .i64 v, born := ck }) (ck + 1))) := by
  have hu : Try.prog.underlying 116 = some (.map 47 3) := by kernel_rfl
  have hk := findKey_T t w es L h
  rw [hn] at hk
  unfold Instr.mapUpdate
  simp only [Sem.run_bind, run_underlying hu, Result.andThen_ok, getObj, setObj, Sem.run, hm, checkKey_T, hk, Option.map_none]
  rfl

theorem names_push {es : Array MapEntry} {L : List T} {t : T} {ck : Nat} (h : Names es L) : Names (es.push { key := T.val t, val := .int .i64 ((L.length : Int) + 1), born := ck }) (L ++ [t]) := by
  have h' : es.toList.map (fun e => (e.key, e.val)) = namesFrom 0 L := by rw [← names_eq]; exact h
  unfold Names
  rw [names_eq, namesFrom_snoc]
  simp [h']
end Go.Proofs.Ytpcfmafokkffgaa
