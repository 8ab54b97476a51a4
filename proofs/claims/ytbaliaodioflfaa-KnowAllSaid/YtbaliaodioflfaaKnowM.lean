/-
  What one can make, in memory: a mind's header, its rows and its map of boxes; walks through the ways in which terms are made. For every store and every set of marks.
-/
import Derived.Test.YtbaliaodioflfaaHd2
import Derived.Test.YtbaliaodioflfaaKnowP
import Derived.ChangeKeysEq
namespace Go.Proofs.Ytbaliaodioflfaa
open Go.RowKit

theorem Hd.kth {W w : World} {k : Nat} {o : Obj} : ∀ (i : Nat) {Rs : List Res}, Hd W w Rs → Rs[i]? = some (Blk k o) → w.heap[k]? = some o
  | 0, A :: Rs, h, e => by
    have e2 : A = Blk k o := by simpa using e
    subst e2
    exact h.blk
  | i + 1, A :: Rs, h, e => Hd.kth i h.drop (by simpa using e)
  | _, [], _, e => by simp at e

def bools (cs : List Bool) : List Value := cs.map .bool
/-- The names of what is made of each secret. -/
def pubs (L : List T) (n : Nat) : List Int := (List.range n).map fun (i : Nat) => nm L (pubT (i : Int))
def kpus (L : List T) (n : Nat) : List Int := (List.range n).map fun (i : Nat) => nm L (kpuT (i : Int))

def mindHead (lb cb pb kb mb N : Nat) (dh kem : Bool) : Obj :=
  .cells #[.slice (some ⟨lb, 0, none⟩) N N, .slice (some ⟨cb, 0, none⟩) N N, .slice (some ⟨pb, 0, none⟩) N N, .slice (some ⟨kb, 0, none⟩) N N, .map (some mb), .bool dh, .bool kem] 144 (0, 0)

/-- A mind's blocks; that of its marks is the first. -/
abbrev Mind (hb lb cb pb kb mb N : Nat) (L : List T) (dh kem : Bool) (es : Array MapEntry) (ck : Nat) (cs : List Bool) (Rs : List Res) : List Res :=
  Blk cb (.cells (bools cs).toArray 4 (0, 0)) :: Blk hb (mindHead lb cb pb kb mb N dh kem) :: Blk lb (.cells (cellsOf (zeroT :: L)).toArray 76 (0, 0)) ::
    Blk pb (.cells (ints (pubs L N)).toArray 3 (0, 0)) :: Blk kb (.cells (ints (kpus L N)).toArray 3 (0, 0)) :: Blk mb (.map es ck) :: Rs

/-- The boxes that a map holds. -/
def boxB (bs : List (Int × Int × Int)) (a b : Int) : Int := match bs.find? fun p => decide (p.1 = a ∧ p.2.1 = b) with
  | some p => p.2.2
  | none => 0
def boxVals (bs : List (Int × Int × Int)) : List (Value × Value) := bs.map fun p => (.agg #[.int .i64 p.1, .int .i64 p.2.1], .int .i64 p.2.2)
def BoxOk (es : Array MapEntry) (L : List T) : Prop := ∃ bs, es.toList.map (fun e => (e.key, e.val)) = boxVals bs ∧ ∀ a b, boxB bs a b = nm L (boxT a b)

theorem eqlIn_K (a b a' b' : Int) (w : World) : (Op.equalIn 10000 33 (.agg #[.int .i64 a, .int .i64 b]) (.agg #[.int .i64 a', .int .i64 b'])).run Try.prog w = .ok (decide (a = a' ∧ b = b')) w := by
  have hu : Try.prog.underlying 33 = some (.array 2 3) := by kernel_rfl
  obtain ⟨i, hi⟩ := Option.isSome_iff_exists.1 (show (Try.prog.info? 3).isSome = true by kernel_rfl)
  have h1 : Try.prog.cellsOf 3 = 1 := by kernel_rfl
  have p0 : ∀ x y : Int, (part 3 #[.int .i64 x, .int .i64 y] 0).run Try.prog w = .ok (.int .i64 x) w := fun x y => by kernel_rfl
  have p1 : ∀ x y : Int, (part 3 #[.int .i64 x, .int .i64 y] 1).run Try.prog w = .ok (.int .i64 y) w := fun x y => by kernel_rfl
  have pe : ∀ x y : Int, (Op.equalIn 9999 3 (.int .i64 x) (.int .i64 y)).run Try.prog w = .ok (x == y) w := fun x y => by kernel_rfl
  rw [run_equalIn_array w 9999 _ _ hu hi, h1, show List.range 2 = [0, 1] from rfl]
  simp only [Op.eqItems, Sem.run_bind, Nat.zero_mul, Nat.one_mul, p0, pe, Result.andThen_ok]
  by_cases h1 : a = a' <;> by_cases h2 : b = b' <;> simp [h1, h2, p1, pe]
theorem equal_K (a b a' b' : Int) (w : World) : (Op.equal 33 (.agg #[.int .i64 a, .int .i64 b]) (.agg #[.int .i64 a', .int .i64 b'])).run Try.prog w = .ok (decide (a = a' ∧ b = b')) w := eqlIn_K a b a' b' w
theorem checkKey_K (a b : Int) (e : Bool) (w : World) : (Instr.checkKey e 10000 33 (.agg #[.int .i64 a, .int .i64 b])).run Try.prog w = .ok () w := by
  kernel_rfl

theorem findAsking_K (a b : Int) (w : World) : ∀ (es : List MapEntry) (bs : List (Int × Int × Int)) (j : Nat), es.map (fun e => (e.key, e.val)) = boxVals bs →
    ∃ r, (Instr.findAsking 33 (.agg #[.int .i64 a, .int .i64 b]) es j).run Try.prog w = .ok r w ∧ (match r with | some (_, v) => v = .int .i64 (boxB bs a b) | none => boxB bs a b = 0) ∧ ((bs.find? fun p => decide (p.1 = a ∧ p.2.1 = b)) = none → r = none)
  | [], bs, j, h => by
    cases bs with
    | nil => exact ⟨none, by simp [Instr.findAsking], rfl, fun _ => rfl⟩
    | cons p bs => simp [boxVals] at h
  | e :: es, bs, j, h => by
    cases bs with
    | nil => simp [boxVals] at h
    | cons p bs =>
      simp only [List.map_cons, boxVals, List.cons.injEq, Prod.mk.injEq] at h
      obtain ⟨⟨h1, h2⟩, h3⟩ := h
      obtain ⟨r, ih1, ih2, ih3⟩ := findAsking_K a b w es bs (j + 1) h3
      by_cases hu : p.1 = a ∧ p.2.1 = b
      · refine ⟨some (j, .int .i64 p.2.2), ?_, ?_, ?_⟩
        · obtain ⟨rfl, rfl⟩ := hu
          simp only [Instr.findAsking, Sem.run_bind, h1, equal_K, Result.andThen_ok]
          simp [h2]
        · simp [boxB, hu]
        · intro hn
          simp [hu] at hn
      · refine ⟨r, ?_, ?_, ?_⟩
        · have hu' : ¬ (a = p.1 ∧ b = p.2.1) := fun e => hu ⟨e.1.symm, e.2.symm⟩
          simp only [Instr.findAsking, Sem.run_bind, h1, equal_K, Result.andThen_ok, hu', decide_false, Bool.false_eq_true, if_false, ih1]
        · have e : boxB (p :: bs) a b = boxB bs a b := by simp [boxB, hu]
          rw [e]; exact ih2
        · intro hn
          refine ih3 ?_
          simpa [hu] using hn

theorem findKey_K (a b : Int) (w : World) (es : Array MapEntry) (bs : List (Int × Int × Int)) (h : es.toList.map (fun e => (e.key, e.val)) = boxVals bs) :
    ∃ r, (Instr.findKey 33 (.agg #[.int .i64 a, .int .i64 b]) es.toList).run Try.prog w = .ok r w ∧ (match r with | some (_, v) => v = .int .i64 (boxB bs a b) | none => boxB bs a b = 0) ∧ ((bs.find? fun p => decide (p.1 = a ∧ p.2.1 = b)) = none → r = none) := by
  have hd : Try.prog.underlying 33 = some (.array 2 3) := by kernel_rfl
  have hn : ∀ v e es j, Instr.findNow (.array 2 3) v (e :: es) j = none := fun v e es j => by simp [Instr.findNow, Instr.sameNow]
  unfold Instr.findKey
  simp only [Sem.run_bind, run_underlying hd, Result.andThen_ok]
  cases hes : es.toList with
  | nil =>
    have : bs = [] := by
      cases bs with
      | nil => rfl
      | cons p bs => rw [hes] at h; simp [boxVals] at h
    subst this
    exact ⟨none, by simp [Instr.findNow], rfl, fun _ => rfl⟩
  | cons e es' =>
    rw [hes] at h
    rw [hn]
    exact findAsking_K a b w (e :: es') bs 0 h

theorem lookup_K (a b : Int) (w : World) {mb : Nat} {es : Array MapEntry} {ck : Nat} {L : List T} (hm : w.heap[mb]? = some (.map es ck)) (h : BoxOk es L) :
    (Instr.lookup 142 (.map (some mb)) (.agg #[.int .i64 a, .int .i64 b]) false).run Try.prog w = .ok (.int .i64 (nm L (boxT a b))) w := by
  obtain ⟨bs, h1, h2⟩ := h
  obtain ⟨r, k1, k2, _⟩ := findKey_K a b w es bs h1
  have hu : Try.prog.underlying 142 = some (.map 33 3) := by kernel_rfl
  have hz : ∀ w, (zeroValue 3).run Try.prog w = .ok (.int .i64 0) w := fun w => by kernel_rfl
  unfold Instr.lookup
  simp only [Sem.run_bind, run_underlying hu, Result.andThen_ok, getObj, Sem.run, hm, Sem.run_pure, checkKey_K, k1]
  rw [← h2]
  cases r with
  | none =>
    dsimp only at k2
    simp [hz, k2]
  | some x =>
    obtain ⟨j, v⟩ := x
    dsimp only at k2
    subst k2
    simp

theorem mapUpdate_K (a b v : Int) (w : World) {mb : Nat} {es : Array MapEntry} {ck : Nat} {bs : List (Int × Int × Int)} (hm : w.heap[mb]? = some (.map es ck)) (h : es.toList.map (fun e => (e.key, e.val)) = boxVals bs) (hn : (bs.find? fun p => decide (p.1 = a ∧ p.2.1 = b)) = none) :
    (Instr.mapUpdate 142 (.map (some mb)) (.agg #[.int .i64 a, .int .i64 b]) (.int .i64 v)).run Try.prog w = .ok () (setMap w mb (.map (es.push { key := .agg #[.int .i64 a, .int .i64 b], val := .int .i64 v, born := ck }) (ck + 1))) := by
  have hu : Try.prog.underlying 142 = some (.map 33 3) := by kernel_rfl
  obtain ⟨r, k1, _, k3⟩ := findKey_K a b w es bs h
  obtain rfl := k3 hn
  unfold Instr.mapUpdate
  simp only [Sem.run_bind, run_underlying hu, Result.andThen_ok, getObj, setObj, Sem.run, hm, checkKey_K, k1]
  rfl

/-- What the walk reads of a mind. -/
structure MindAt (w : World) (hb lb cb pb kb mb N : Nat) (L : List T) (dh kem : Bool) (cs : List Bool) : Prop where
  good : Good L
  small : L.length ≤ 1048576
  hN : N = L.length + 1
  len : cs.length = L.length + 1
  h0 : w.cell? ⟨hb, 0, none⟩ = some (.slice (some ⟨lb, 0, none⟩) N N)
  h1 : w.cell? ⟨hb, 1, none⟩ = some (.slice (some ⟨cb, 0, none⟩) N N)
  h2 : w.cell? ⟨hb, 2, none⟩ = some (.slice (some ⟨pb, 0, none⟩) N N)
  h3 : w.cell? ⟨hb, 3, none⟩ = some (.slice (some ⟨kb, 0, none⟩) N N)
  h4 : w.cell? ⟨hb, 4, none⟩ = some (.map (some mb))
  h5 : w.cell? ⟨hb, 5, none⟩ = some (.bool dh)
  h6 : w.cell? ⟨hb, 6, none⟩ = some (.bool kem)
  cl : ∀ (i : Nat) (t : T), (zeroT :: L)[i]? = some t → ∀ j v, t.cells[j]? = some v → w.cell? ⟨lb, i * 6 + j, none⟩ = some v
  cc : ∀ i : Nat, i < N → w.cell? ⟨cb, i, none⟩ = some (.bool (on cs (i : Int)))
  cp : ∀ i : Nat, i < N → w.cell? ⟨pb, i, none⟩ = some (.int .i64 (nm L (pubT (i : Int))))
  ck : ∀ i : Nat, i < N → w.cell? ⟨kb, i, none⟩ = some (.int .i64 (nm L (kpuT (i : Int))))
  lk : ∀ a b w', w'.heap[mb]? = w.heap[mb]? → (Instr.lookup 142 (.map (some mb)) (.agg #[.int .i64 a, .int .i64 b]) false).run Try.prog w' = .ok (.int .i64 (nm L (boxT a b))) w'
  lts : hb < w.heap.size ∧ lb < w.heap.size ∧ cb < w.heap.size ∧ pb < w.heap.size ∧ kb < w.heap.size ∧ mb < w.heap.size

section
variable {W w w' : World} {hb lb cb pb kb mb N ckk : Nat} {L : List T} {dh kem : Bool} {es : Array MapEntry} {cs : List Bool} {Rs : List Res}

theorem MindAt.later (h : MindAt w hb lb cb pb kb mb N L dh kem cs) (hb' : Below w.heap.size w w') : MindAt w' hb lb cb pb kb mb N L dh kem cs := by
  obtain ⟨l1, l2, l3, l4, l5, l6⟩ := h.lts
  have hs := hb'.size
  exact ⟨h.good, h.small, h.hN, h.len, (hb'.cell l1).trans h.h0, (hb'.cell l1).trans h.h1, (hb'.cell l1).trans h.h2, (hb'.cell l1).trans h.h3, (hb'.cell l1).trans h.h4, (hb'.cell l1).trans h.h5, (hb'.cell l1).trans h.h6,
    fun i t hi j v hj => (hb'.cell l2).trans (h.cl i t hi j v hj), fun i hi => (hb'.cell l3).trans (h.cc i hi), fun i hi => (hb'.cell l4).trans (h.cp i hi), fun i hi => (hb'.cell l5).trans (h.ck i hi),
    fun a b w2 hw => h.lk a b w2 (hw.trans (hb'.block _ l6)), by omega⟩

theorem Hd.mind (h : Hd W w (Mind hb lb cb pb kb mb N L dh kem es ckk cs Rs)) (g : Good L) (hs : L.length ≤ 1048576) (hN : N = L.length + 1) (hl : cs.length = L.length + 1) (hbx : BoxOk es L) : MindAt w hb lb cb pb kb mb N L dh kem cs := by
  have b0 := Hd.kth 0 h rfl
  have b1 := Hd.kth 1 h rfl
  have b2 := Hd.kth 2 h rfl
  have b3 := Hd.kth 3 h rfl
  have b4 := Hd.kth 4 h rfl
  have b5 := Hd.kth 5 h rfl
  refine ⟨g, hs, hN, hl, by rw [cell_of_heap b1]; rfl, by rw [cell_of_heap b1]; rfl, by rw [cell_of_heap b1]; rfl, by rw [cell_of_heap b1]; rfl, by rw [cell_of_heap b1]; rfl, by rw [cell_of_heap b1]; rfl, by rw [cell_of_heap b1]; rfl,
    fun i t hi j v hj => ?_, fun i hi => ?_, fun i hi => ?_, fun i hi => ?_, fun a b w2 hw => lookup_K a b w2 (hw.trans b5) hbx, ?_⟩
  · rw [cell_of_heap b2, List.getElem?_toArray]
    exact cellsOf_get hi hj
  · rw [cell_of_heap b0]
    have : i < cs.length := by omega
    simp [bools, on, List.getD, List.getElem?_eq_getElem this]
  · rw [cell_of_heap b3]
    simp [ints, pubs, hi]
  · rw [cell_of_heap b4]
    simp [ints, kpus, hi]
  · exact ⟨(Array.getElem?_eq_some_iff.1 b1).1, (Array.getElem?_eq_some_iff.1 b2).1, (Array.getElem?_eq_some_iff.1 b0).1, (Array.getElem?_eq_some_iff.1 b3).1, (Array.getElem?_eq_some_iff.1 b4).1, (Array.getElem?_eq_some_iff.1 b5).1⟩

theorem nm_range (L : List T) (t : T) : ∃ i : Nat, nm L t = i ∧ i ≤ L.length := by
  unfold nm
  cases h : find t L with
  | none => exact ⟨0, rfl, Nat.zero_le _⟩
  | some j => exact ⟨j + 1, rfl, find_lt h⟩
theorem MindAt.pub (h : MindAt w hb lb cb pb kb mb N L dh kem cs) (i : Nat) (hi : i < N) : ∃ p : Nat, p < N ∧ nm L (pubT (i : Int)) = p ∧ w.cell? ⟨pb, i, none⟩ = some (.int .i64 p) := by
  obtain ⟨p, e, hp⟩ := nm_range L (pubT (i : Int))
  exact ⟨p, by have := h.hN; omega, e, by rw [h.cp i hi, e]⟩
theorem MindAt.kpu (h : MindAt w hb lb cb pb kb mb N L dh kem cs) (i : Nat) (hi : i < N) : ∃ p : Nat, p < N ∧ nm L (kpuT (i : Int)) = p ∧ w.cell? ⟨kb, i, none⟩ = some (.int .i64 p) := by
  obtain ⟨p, e, hp⟩ := nm_range L (kpuT (i : Int))
  exact ⟨p, by have := h.hN; omega, e, by rw [h.ck i hi, e]⟩

end
end Go.Proofs.Ytbaliaodioflfaa
