/-
  Walks and laws that the proof stands on, one behind another: KnowU. For every input.
-/
import Derived.Test.YtpcfmafokkffgaaY2
import Derived.ChangeKeysEq
import Derived.Laws.MakeOwn
import Derived.Test.YtpcfmafokkffgaaY9
import Derived.StillTailTactics
import Derived.Deep.LoopGhost
import Derived.Laws.EntriesVeiled
import Derived.StillTail
namespace Go.Proofs.Ytpcfmafokkffgaa

/-- A term's name, or 0. -/
def nm (L : List T) (t : T) : Int := match find t L with
  | some i => (i : Int) + 1
  | none => 0

/-- Can a term be made at once of what S has? -/
def mkB (L : List T) (dh kem : Bool) (S : Int → Bool) (t : T) : Bool :=
  if t.k = 1 then true
  else if t.k = 3 ∨ t.k = 5 ∨ t.k = 9 then S t.a
  else if t.k = 8 ∨ t.k = 11 then S t.a && S t.b
  else if t.k = 10 then (S t.a && S t.b) && S t.c
  else if t.k = 4 then (S t.a && (S t.b || S (nm L (pubT t.b)))) || (S t.b && (S t.a || S (nm L (pubT t.a)))) || (dh && S (nm L (pubT t.a)) && S (nm L (pubT t.b)))
  else if t.k = 6 then S t.b && (S t.a || S (nm L (kpuT t.a)))
  else if t.k = 7 then (S t.b && (S t.a || S (nm L (kpuT t.a)))) || (S (nm L (boxT t.a t.b)) && (kem || S t.a))
  else false

/-- What can be made. -/
inductive Der (L : List T) (dh kem : Bool) (K : Int → Prop) : Int → Prop
  | known (x : Int) : K x → Der L dh kem K x
  | make (x : Int) (t : T) (S : Int → Bool) : (∀ y, S y = true → Der L dh kem K y) → At L x t → mkB L dh kem S t = true → Der L dh kem K x
  | fst (y : Int) (t : T) : Der L dh kem K y → At L y t → t.k = 11 → Der L dh kem K t.a
  | snd (y : Int) (t : T) : Der L dh kem K y → At L y t → t.k = 11 → Der L dh kem K t.b
  | out (y : Int) (t : T) : Der L dh kem K y → At L y t → t.k = 10 → Der L dh kem K t.a → Der L dh kem K t.c

/-- Nothing more can be made of x. -/
structure CloAt (L : List T) (dh kem : Bool) (S : Int → Bool) (x : Int) (t : T) : Prop where
  make : mkB L dh kem S t = true → S x = true
  fst : S x = true → t.k = 11 → S t.a = true
  snd : S x = true → t.k = 11 → S t.b = true
  out : S x = true → t.k = 10 → S t.a = true → S t.c = true

theorem mkB_mono {L : List T} {dh kem dh' kem' : Bool} {S S' : Int → Bool} {t : T} (hd : dh = true → dh' = true) (hk : kem = true → kem' = true) (h : ∀ x, S x = true → S' x = true) (hm : mkB L dh kem S t = true) : mkB L dh' kem' S' t = true := by
  unfold mkB at hm ⊢
  repeat' split
  all_goals simp_all
  all_goals grind

theorem der_of_clo {L : List T} {dh kem : Bool} {K : Int → Prop} {S : Int → Bool} (c : ∀ x t, At L x t → CloAt L dh kem S x t) (hK : ∀ x, K x → S x = true) {x : Int} (h : Der L dh kem K x) : S x = true := by
  induction h with
  | known x h => exact hK x h
  | make x t S' _ hat hm ih => exact (c x t hat).make (mkB_mono id id ih hm)
  | fst y t _ hat hk ih => exact (c y t hat).fst ih hk
  | snd y t _ hat hk ih => exact (c y t hat).snd ih hk
  | out y t _ hat hk _ ih1 ih2 => exact (c y t hat).out ih1 hk ih2

/-- A set of names as a row of marks. -/
def on (cs : List Bool) (x : Int) : Bool := cs.getD x.toNat false
def lrn (cs : List Bool) (x : Int) : List Bool := cs.set x.toNat true

theorem lrn_length (cs : List Bool) (x : Int) : (lrn cs x).length = cs.length := by simp [lrn]
theorem on_lrn {cs : List Bool} {x y : Int} (hx : 0 ≤ x) (hl : x < cs.length) (hy : 0 ≤ y) : on (lrn cs x) y = (on cs y || decide (x = y)) := by
  unfold on lrn
  simp only [List.getD_eq_getElem?_getD, List.getElem?_set]
  by_cases e : x = y
  · subst e
    rw [if_pos rfl, if_pos (by omega)]
    simp
  · rw [if_neg (by omega)]
    simp [e]
theorem on_lrn_mono (cs : List Bool) (x y : Int) (h : on cs y = true) : on (lrn cs x) y = true := by
  unfold on lrn at *
  simp only [List.getD_eq_getElem?_getD, List.getElem?_set] at *
  split
  · split
    · rfl
    · rename_i h1 h2
      rw [← h1, List.getElem?_eq_none (by omega)] at h
      simp at h
  · exact h

/-- How many marks. -/
def cnt (cs : List Bool) : Nat := cs.countP id
theorem cnt_le (cs : List Bool) : cnt cs ≤ cs.length := List.countP_le_length

theorem cnt_set : ∀ (cs : List Bool) (n : Nat), cnt cs ≤ cnt (cs.set n true) ∧ (n < cs.length → cs.getD n false = false → cnt cs < cnt (cs.set n true))
  | [], n => by simp [cnt]
  | c :: cs, 0 => by
    cases c <;> simp [cnt]
  | c :: cs, n + 1 => by
    have ih := cnt_set cs n
    simp only [cnt] at ih
    constructor
    · simp only [List.set_cons_succ, cnt, List.countP_cons]
      have := ih.1
      omega
    · intro h1 h2
      simp only [List.set_cons_succ, cnt, List.countP_cons]
      have := ih.2 (by simpa using h1) (by simpa using h2)
      omega
theorem cnt_lrn (cs : List Bool) (x : Int) : cnt cs ≤ cnt (lrn cs x) := (cnt_set cs _).1
theorem cnt_lrn_new {cs : List Bool} {x : Int} (hx : 0 ≤ x) (hl : x < cs.length) (h : on cs x = false) : cnt cs < cnt (lrn cs x) := (cnt_set cs _).2 (by omega) h

/-- What can be made taken apart. -/
def apt (cs : List Bool) (t : T) : Bool × List Bool :=
  if t.k = 11 then (!on cs t.a || !on (lrn cs t.a) t.b, lrn (lrn cs t.a) t.b)
  else if t.k = 10 ∧ on cs t.a = true then (!on cs t.c, lrn cs t.c)
  else (false, cs)

/-- A look at one name. -/
def visit (L : List T) (dh kem : Bool) (cs : List Bool) (x : Int) (t : T) : Bool × List Bool :=
  if on cs x = false ∧ mkB L dh kem (on cs) t = true then (true, if on (lrn cs x) x = true then (apt (lrn cs x) t).2 else lrn cs x)
  else if on cs x = true then apt cs t else (false, cs)

/-- Marks that say of names alone what can be made. -/
structure Marks (L : List T) (dh kem : Bool) (K : Int → Prop) (cs : List Bool) : Prop where
  len : cs.length = L.length + 1
  zero : on cs 0 = false
  der : ∀ x, on cs x = true → Der L dh kem K x
  knows : ∀ x, K x → on cs x = true

section
variable {L : List T} {dh kem : Bool} {K : Int → Prop} {cs : List Bool} {x : Int} {t : T}

theorem Marks.lrn (h : Marks L dh kem K cs) (hx : 1 ≤ x) (hl : x ≤ L.length) (hd : Der L dh kem K x) : Marks L dh kem K (lrn cs x) := by
  have hlen := h.len
  refine ⟨by rw [lrn_length, h.len], ?_, fun y hy => ?_, fun y hy => on_lrn_mono _ _ _ (h.knows y hy)⟩
  · rw [on_lrn (by omega) (by omega) (by omega), h.zero]
    simp; omega
  · by_cases h0 : 0 ≤ y
    · rw [on_lrn (by omega) (by omega) h0] at hy
      simp only [Bool.or_eq_true, decide_eq_true_eq] at hy
      rcases hy with hy | rfl
      · exact h.der y hy
      · exact hd
    · have e : y.toNat = (0 : Int).toNat := by omega
      have hy2 : on (Go.Proofs.Ytpcfmafokkffgaa.lrn cs x) 0 = true := by unfold on at hy ⊢; rw [← e]; exact hy
      rw [on_lrn (by omega) (by omega) (by omega), h.zero] at hy2
      simp at hy2
      omega

theorem parts_in (g : Good L) (hat : At L x t) {p : Int} (hp : p ∈ t.parts) : 1 ≤ p ∧ p ≤ L.length := (hat.may g).2.2.2.2.2 p hp

theorem apt_marks (g : Good L) (h : Marks L dh kem K cs) (hat : At L x t) (hx : on cs x = true) : Marks L dh kem K (apt cs t).2 := by
  have hd := h.der x hx
  unfold apt
  split
  · rename_i hk
    have pa := parts_in g hat (p := t.a) (by simp [T.parts, many, hk])
    have pb := parts_in g hat (p := t.b) (by simp [T.parts, many, hk])
    exact (h.lrn pa.1 pa.2 (.fst x t hd hat hk)).lrn pb.1 pb.2 (.snd x t hd hat hk)
  · split
    · rename_i hk
      have pc := parts_in g hat (p := t.c) (by simp [T.parts, many, hk.1])
      exact h.lrn pc.1 pc.2 (.out x t hd hat hk.1 (h.der _ hk.2))
    · exact h

theorem apt_cnt (cs : List Bool) (t : T) : cnt cs ≤ cnt (apt cs t).2 := by
  unfold apt
  split
  · exact Nat.le_trans (cnt_lrn _ _) (cnt_lrn _ _)
  · split
    · exact cnt_lrn _ _
    · exact Nat.le_refl _

theorem set_same : ∀ (cs : List Bool) (n : Nat), cs.getD n false = true → cs.set n true = cs
  | [], _, h => by simp at h
  | c :: cs, 0, h => by simp at h; simp [h]
  | c :: cs, n + 1, h => by simp at h; simp; exact set_same cs n (by simpa using h)
theorem lrn_same (h : on cs x = true) : Go.Proofs.Ytpcfmafokkffgaa.lrn cs x = cs := set_same _ _ h

theorem apt_false (h : (apt cs t).1 = false) : (apt cs t).2 = cs := by
  unfold apt at h ⊢
  split at h
  · simp only [Bool.or_eq_false_iff, Bool.not_eq_false'] at h
    rw [if_pos ‹_›]
    dsimp only
    rw [lrn_same h.2, lrn_same h.1]
  · rw [if_neg ‹_›]
    split at h
    · simp only [Bool.not_eq_false'] at h
      rw [if_pos ‹_›]
      exact lrn_same h
    · rw [if_neg ‹_›]

theorem apt_true (g : Good L) (hlen : cs.length = L.length + 1) (hat : At L x t) (h : (apt cs t).1 = true) : cnt cs < cnt (apt cs t).2 := by
  unfold apt at h ⊢
  split at h
  · rename_i hk
    have pa := parts_in g hat (p := t.a) (by simp [T.parts, many, hk])
    have pb := parts_in g hat (p := t.b) (by simp [T.parts, many, hk])
    rw [if_pos hk]
    simp only [Bool.or_eq_true, Bool.not_eq_true'] at h
    rcases h with h | h
    · exact Nat.lt_of_lt_of_le (cnt_lrn_new (by omega) (by omega) h) (cnt_lrn _ _)
    · exact Nat.lt_of_le_of_lt (cnt_lrn _ _) (cnt_lrn_new (by omega) (by rw [lrn_length]; omega) h)
  · rename_i hk
    rw [if_neg hk]
    split at h
    · rename_i hk2
      have pc := parts_in g hat (p := t.c) (by simp [T.parts, many, hk2.1])
      rw [if_pos hk2]
      simp only [Bool.not_eq_true'] at h
      exact cnt_lrn_new (by omega) (by omega) h
    · cases h

theorem visit_marks (g : Good L) (h : Marks L dh kem K cs) (hat : At L x t) : Marks L dh kem K (visit L dh kem cs x t).2 := by
  have h1 := hat.lo
  have h2 := hat.hi
  unfold visit
  split
  · rename_i hm
    have hl := h.lrn h1 h2 (.make x t (on cs) h.der hat hm.2)
    dsimp only
    split
    · exact apt_marks g hl hat ‹_›
    · exact hl
  · split
    · exact apt_marks g h hat ‹_›
    · exact h

theorem visit_false (h : (visit L dh kem cs x t).1 = false) : (visit L dh kem cs x t).2 = cs ∧ CloAt L dh kem (on cs) x t := by
  unfold visit at h ⊢
  split at h
  · cases h
  · rename_i hm
    rw [if_neg hm]
    split at h
    · rename_i hx
      rw [if_pos hx]
      have e := apt_false h
      refine ⟨e, fun _ => hx, fun _ hk => ?_, fun _ hk => ?_, fun _ hk ha => ?_⟩
      · unfold apt at h
        rw [if_pos hk] at h
        simp only [Bool.or_eq_false_iff, Bool.not_eq_false'] at h
        exact h.1
      · unfold apt at h
        rw [if_pos hk] at h
        simp only [Bool.or_eq_false_iff, Bool.not_eq_false'] at h
        rw [lrn_same h.1] at h
        exact h.2
      · unfold apt at h
        rw [if_neg (by omega), if_pos ⟨hk, ha⟩] at h
        simpa using h
    · rename_i hx
      rw [if_neg hx]
      have hx' : on cs x = false := by simpa using hx
      refine ⟨rfl, fun hmk => absurd ⟨hx', hmk⟩ hm, fun h => absurd h hx, fun h => absurd h hx, fun h => absurd h hx⟩

theorem visit_true (g : Good L) (hlen : cs.length = L.length + 1) (hat : At L x t) (h : (visit L dh kem cs x t).1 = true) : cnt cs < cnt (visit L dh kem cs x t).2 := by
  have h1 := hat.lo
  have h2 := hat.hi
  unfold visit at h ⊢
  split at h
  · rename_i hm
    rw [if_pos hm]
    have := cnt_lrn_new (cs := cs) (x := x) (by omega) (by omega) hm.1
    dsimp only
    split
    · exact Nat.lt_of_lt_of_le this (apt_cnt _ _)
    · exact this
  · rename_i hm
    rw [if_neg hm]
    split at h
    · rw [if_pos ‹_›]; exact apt_true g hlen hat h
    · cases h
theorem visit_cnt (g : Good L) (hlen : cs.length = L.length + 1) (hat : At L x t) : cnt cs ≤ cnt (visit L dh kem cs x t).2 := by
  cases h : (visit L dh kem cs x t).1 with
  | false => rw [(visit_false h).1]; exact Nat.le_refl _
  | true => exact Nat.le_of_lt (visit_true g hlen hat h)
end

/-- A round so far: n names were looked at, from cs0 on. -/
structure Pass (L : List T) (dh kem : Bool) (K : Int → Prop) (cs0 : List Bool) (n : Nat) (more : Bool) (cs : List Bool) : Prop where
  marks : Marks L dh kem K cs
  still : more = false → cs = cs0 ∧ ∀ (x : Int) t, x ≤ n → At L x t → CloAt L dh kem (on cs) x t
  grew : more = true → cnt cs0 < cnt cs

theorem Pass.start {L : List T} {dh kem : Bool} {K : Int → Prop} {cs : List Bool} (h : Marks L dh kem K cs) : Pass L dh kem K cs 0 false cs :=
  ⟨h, fun _ => ⟨rfl, fun x t hx hat => by have := hat.lo; omega⟩, fun h => by cases h⟩

theorem Pass.step {L : List T} {dh kem : Bool} {K : Int → Prop} {cs0 cs : List Bool} {n : Nat} {more : Bool} {t : T} (g : Good L) (h : Pass L dh kem K cs0 n more cs) (hat : At L ((n : Int) + 1) t) :
    Pass L dh kem K cs0 (n + 1) (more || (visit L dh kem cs ((n : Int) + 1) t).1) (visit L dh kem cs ((n : Int) + 1) t).2 := by
  refine ⟨visit_marks g h.marks hat, fun hm => ?_, fun hm => ?_⟩
  · simp only [Bool.or_eq_false_iff] at hm
    obtain ⟨e1, e2⟩ := visit_false hm.2
    obtain ⟨s1, s2⟩ := h.still hm.1
    rw [e1]
    refine ⟨s1, fun x u hx hu => ?_⟩
    by_cases hxn : x ≤ n
    · exact s2 x u hxn hu
    · obtain rfl : x = (n : Int) + 1 := by omega
      obtain rfl := hu.same hat
      exact e2
  · cases hmo : more with
    | true => exact Nat.lt_of_lt_of_le (h.grew hmo) (visit_cnt g h.marks.len hat)
    | false =>
      rw [hmo] at hm
      rw [← (h.still hmo).1]
      exact visit_true g h.marks.len hat hm

/-- A whole round that found nothing: what is marked is what can be made. -/
theorem Pass.done {L : List T} {dh kem : Bool} {K : Int → Prop} {cs0 cs : List Bool} (h : Pass L dh kem K cs0 L.length false cs) (x : Int) : on cs x = true ↔ Der L dh kem K x :=
  ⟨h.marks.der x, fun hd => der_of_clo (fun x t hat => (h.still rfl).2 x t hat.hi hat) h.marks.knows hd⟩

open Classical in
/-- The names of what can be made. -/
noncomputable def allOf (L : List T) (dh kem : Bool) (K : Int → Prop) : List Int := ((List.range L.length).map fun (i : Nat) => ((i : Nat) : Int) + 1).filter fun x => decide (Der L dh kem K x)

end Go.Proofs.Ytpcfmafokkffgaa
namespace Go.Proofs.Ytpcfmafokkffgaa
open Go.RowKit

theorem Hd.kth {W w : World} {k : Nat} {o : Obj} : ∀ (i : Nat) {Rs : List Res}, Hd W w Rs → Rs[i]? = some (Blk k o) → w.heap[k]? = some o
  | 0, A :: Rs, h, e => by
    have e2 : A = Blk k o := by simpa using e
    subst e2
    exact h.blk
  | i + 1, A :: Rs, h, e => Hd.kth i h.drop (by simpa using e)
  | _, [], _, e => by simp at e

def bools (cs : List Bool) : List Value := cs.map .bool
/-- The names of what is made of each secret. -/
def pubs (L : List T) (n : Nat) : List Int := (List.range n).map fun (i : Nat) => nm L (pubT (i : Int))
def kpus (L : List T) (n : Nat) : List Int := (List.range n).map fun (i : Nat) => nm L (kpuT (i : Int))

def mindHead (lb cb pb kb mb N : Nat) (dh kem : Bool) : Obj :=
  .cells #[.slice (some ⟨lb, 0, none⟩) N N, .slice (some ⟨cb, 0, none⟩) N N, .slice (some ⟨pb, 0, none⟩) N N, .slice (some ⟨kb, 0, none⟩) N N, .map (some mb), .bool dh, .bool kem] 138 (0, 0)

/-- A mind's blocks; that of its marks is the first. -/
abbrev Mind (hb lb cb pb kb mb N : Nat) (L : List T) (dh kem : Bool) (es : Array MapEntry) (ck : Nat) (cs : List Bool) (Rs : List Res) : List Res :=
  Blk cb (.cells (bools cs).toArray 4 (0, 0)) :: Blk hb (mindHead lb cb pb kb mb N dh kem) :: Blk lb (.cells (cellsOf (zeroT :: L)).toArray 47 (0, 0)) ::
    Blk pb (.cells (ints (pubs L N)).toArray 3 (0, 0)) :: Blk kb (.cells (ints (kpus L N)).toArray 3 (0, 0)) :: Blk mb (.map es ck) :: Rs

/-- The boxes that a map holds. -/
def boxB (bs : List (Int × Int × Int)) (a b : Int) : Int := match bs.find? fun p => decide (p.1 = a ∧ p.2.1 = b) with
  | some p => p.2.2
  | none => 0
def boxVals (bs : List (Int × Int × Int)) : List (Value × Value) := bs.map fun p => (.agg #[.int .i64 p.1, .int .i64 p.2.1], .int .i64 p.2.2)
def BoxOk (es : Array MapEntry) (L : List T) : Prop := ∃ bs, es.toList.map (fun e => (e.key, e.val)) = boxVals bs ∧ ∀ a b, boxB bs a b = nm L (boxT a b)

theorem eqlIn_K (a b a' b' : Int) (w : World) : (Op.equalIn 10000 172 (.agg #[.int .i64 a, .int .i64 b]) (.agg #[.int .i64 a', .int .i64 b'])).run Try.prog w = .ok (decide (a = a' ∧ b = b')) w := by
  have hu : Try.prog.underlying 172 = some (.array 2 3) := by kernel_rfl
  obtain ⟨i, hi⟩ := Option.isSome_iff_exists.1 (show (Try.prog.info? 3).isSome = true by kernel_rfl)
  have h1 : Try.prog.cellsOf 3 = 1 := by kernel_rfl
  have p0 : ∀ x y : Int, (part 3 #[.int .i64 x, .int .i64 y] 0).run Try.prog w = .ok (.int .i64 x) w := fun x y => by kernel_rfl
  have p1 : ∀ x y : Int, (part 3 #[.int .i64 x, .int .i64 y] 1).run Try.prog w = .ok (.int .i64 y) w := fun x y => by kernel_rfl
  have pe : ∀ x y : Int, (Op.equalIn 9999 3 (.int .i64 x) (.int .i64 y)).run Try.prog w = .ok (x == y) w := fun x y => by kernel_rfl
  rw [run_equalIn_array w 9999 _ _ hu hi, h1, show List.range 2 = [0, 1] from rfl]
  simp only [Op.eqItems, Sem.run_bind, Nat.zero_mul, Nat.one_mul, p0, pe, Result.andThen_ok]
  by_cases h1 : a = a' <;> by_cases h2 : b = b' <;> simp [h1, h2, p1, pe]
theorem equal_K (a b a' b' : Int) (w : World) : (Op.equal 172 (.agg #[.int .i64 a, .int .i64 b]) (.agg #[.int .i64 a', .int .i64 b'])).run Try.prog w = .ok (decide (a = a' ∧ b = b')) w := eqlIn_K a b a' b' w
theorem checkKey_K (a b : Int) (e : Bool) (w : World) : (Instr.checkKey e 10000 172 (.agg #[.int .i64 a, .int .i64 b])).run Try.prog w = .ok () w := by
  kernel_rfl

theorem findAsking_K (a b : Int) (w : World) : ∀ (es : List MapEntry) (bs : List (Int × Int × Int)) (j : Nat), es.map (fun e => (e.key, e.val)) = boxVals bs →
    ∃ r, (Instr.findAsking 172 (.agg #[.int .i64 a, .int .i64 b]) es j).run Try.prog w = .ok r w ∧ (match r with | some (_, v) => v = .int .i64 (boxB bs a b) | none => boxB bs a b = 0) ∧ ((bs.find? fun p => decide (p.1 = a ∧ p.2.1 = b)) = none → r = none)
  | [], bs, j, h => by
    cases bs with
    | nil => exact ⟨none, by simp [Instr.findAsking], rfl, fun _ => rfl⟩
    | cons p bs => simp [boxVals] at h
  | e :: es, bs, j, h => by
    cases bs with
    | nil => simp [boxVals] at h
    | cons p bs =>
      simp only [List.map_cons, boxVals, List.cons.injEq, Prod.mk.injEq] at h
      obtain ⟨⟨h1, h2⟩, h3⟩ := h
      obtain ⟨r, ih1, ih2, ih3⟩ := findAsking_K a b w es bs (j + 1) h3
      by_cases hu : p.1 = a ∧ p.2.1 = b
      · refine ⟨some (j, .int .i64 p.2.2), ?_, ?_, ?_⟩
        · obtain ⟨rfl, rfl⟩ := hu
          simp only [Instr.findAsking, Sem.run_bind, h1, equal_K, Result.andThen_ok]
          simp [h2]
        · simp [boxB, hu]
        · intro hn
          simp [hu] at hn
      · refine ⟨r, ?_, ?_, ?_⟩
        · have hu' : ¬ (a = p.1 ∧ b = p.2.1) := fun e => hu ⟨e.1.symm, e.2.symm⟩
          simp only [Instr.findAsking, Sem.run_bind, h1, equal_K, Result.andThen_ok, hu', decide_false, Bool.false_eq_true, if_false, ih1]
        · have e : boxB (p :: bs) a b = boxB bs a b := by simp [boxB, hu]
          rw [e]; exact ih2
        · intro hn
          refine ih3 ?_
          simpa [hu] using hn

theorem findKey_K (a b : Int) (w : World) (es : Array MapEntry) (bs : List (Int × Int × Int)) (h : es.toList.map (fun e => (e.key, e.val)) = boxVals bs) :
    ∃ r, (Instr.findKey 172 (.agg #[.int .i64 a, .int .i64 b]) es.toList).run Try.prog w = .ok r w ∧ (match r with | some (_, v) => v = .int .i64 (boxB bs a b) | none => boxB bs a b = 0) ∧ ((bs.find? fun p => decide (p.1 = a ∧ p.2.1 = b)) = none → r = none) := by
  have hd : Try.prog.underlying 172 = some (.array 2 3) := by kernel_rfl
  have hn : ∀ v e es j, Instr.findNow (.array 2 3) v (e :: es) j = none := fun v e es j => by simp [Instr.findNow, Instr.sameNow]
  unfold Instr.findKey
  simp only [Sem.run_bind, run_underlying hd, Result.andThen_ok]
  cases hes : es.toList with
  | nil =>
    have : bs = [] := by
      cases bs with
      | nil => rfl
      | cons p bs => rw [hes] at h; simp [boxVals] at h
    subst this
    exact ⟨none, by simp [Instr.findNow], rfl, fun _ => rfl⟩
  | cons e es' =>
    rw [hes] at h
    rw [hn]
    exact findAsking_K a b w (e :: es') bs 0 h

theorem lookup_K (a b : Int) (w : World) {mb : Nat} {es : Array MapEntry} {ck : Nat} {L : List T} (hm : w.heap[mb]? = some (.map es ck)) (h : BoxOk es L) :
    (Instr.lookup 136 (.map (some mb)) (.agg #[.int .i64 a, .int .i64 b]) false).run Try.prog w = .ok (.int .i64 (nm L (boxT a b))) w := by
  obtain ⟨bs, h1, h2⟩ := h
  obtain ⟨r, k1, k2, _⟩ := findKey_K a b w es bs h1
  have hu : Try.prog.underlying 136 = some (.map 172 3) := by kernel_rfl
  have hz : ∀ w, (zeroValue 3).run Try.prog w = .ok (.int .i64 0) w := fun w => by kernel_rfl
  unfold Instr.lookup
  simp only [Sem.run_bind, run_underlying hu, Result.andThen_ok, getObj, Sem.run, hm, Sem.run_pure, checkKey_K, k1]
  rw [← h2]
  cases r with
  | none =>
    dsimp only at k2
    simp [hz, k2]
  | some x =>
    obtain ⟨j, v⟩ := x
    dsimp only at k2
    subst k2
    simp

theorem mapUpdate_K (a b v : Int) (w : World) {mb : Nat} {es : Array MapEntry} {ck : Nat} {bs : List (Int × Int × Int)} (hm : w.heap[mb]? = some (.map es ck)) (h : es.toList.map (fun e => (e.key, e.val)) = boxVals bs) (hn : (bs.find? fun p => decide (p.1 = a ∧ p.2.1 = b)) = none) :
    (Instr.mapUpdate 136 (.map (some mb)) (.agg #[.int .i64 a, .int .i64 b]) (.int .i64 v)).run Try.prog w = .ok () (setMap w mb (.map (es.push { key := .agg #[.int .i64 a, .int .i64 b], val := .int .i64 v, born := ck }) (ck + 1))) := by
  have hu : Try.prog.underlying 136 = some (.map 172 3) := by kernel_rfl
  obtain ⟨r, k1, _, k3⟩ := findKey_K a b w es bs h
  obtain rfl := k3 hn
  unfold Instr.mapUpdate
  simp only [Sem.run_bind, run_underlying hu, Result.andThen_ok, getObj, setObj, Sem.run, hm, checkKey_K, k1]
  rfl

/-- What the walk reads of a mind. -/
structure MindAt (w : World) (hb lb cb pb kb mb N : Nat) (L : List T) (dh kem : Bool) (cs : List Bool) : Prop where
  good : Good L
  small : L.length ≤ 1048576
  hN : N = L.length + 1
  len : cs.length = L.length + 1
  h0 : w.cell? ⟨hb, 0, none⟩ = some (.slice (some ⟨lb, 0, none⟩) N N)
  h1 : w.cell? ⟨hb, 1, none⟩ = some (.slice (some ⟨cb, 0, none⟩) N N)
  h2 : w.cell? ⟨hb, 2, none⟩ = some (.slice (some ⟨pb, 0, none⟩) N N)
  h3 : w.cell? ⟨hb, 3, none⟩ = some (.slice (some ⟨kb, 0, none⟩) N N)
  h4 : w.cell? ⟨hb, 4, none⟩ = some (.map (some mb))
  h5 : w.cell? ⟨hb, 5, none⟩ = some (.bool dh)
  h6 : w.cell? ⟨hb, 6, none⟩ = some (.bool kem)
  cl : ∀ (i : Nat) (t : T), (zeroT :: L)[i]? = some t → ∀ j v, t.cells[j]? = some v → w.cell? ⟨lb, i * 6 + j, none⟩ = some v
  cc : ∀ i : Nat, i < N → w.cell? ⟨cb, i, none⟩ = some (.bool (on cs (i : Int)))
  cp : ∀ i : Nat, i < N → w.cell? ⟨pb, i, none⟩ = some (.int .i64 (nm L (pubT (i : Int))))
  ck : ∀ i : Nat, i < N → w.cell? ⟨kb, i, none⟩ = some (.int .i64 (nm L (kpuT (i : Int))))
  lk : ∀ a b w', w'.heap[mb]? = w.heap[mb]? → (Instr.lookup 136 (.map (some mb)) (.agg #[.int .i64 a, .int .i64 b]) false).run Try.prog w' = .ok (.int .i64 (nm L (boxT a b))) w'
  lts : hb < w.heap.size ∧ lb < w.heap.size ∧ cb < w.heap.size ∧ pb < w.heap.size ∧ kb < w.heap.size ∧ mb < w.heap.size

section
variable {W w w' : World} {hb lb cb pb kb mb N ckk : Nat} {L : List T} {dh kem : Bool} {es : Array MapEntry} {cs : List Bool} {Rs : List Res}

theorem MindAt.later (h : MindAt w hb lb cb pb kb mb N L dh kem cs) (hb' : Below w.heap.size w w') : MindAt w' hb lb cb pb kb mb N L dh kem cs := by
  obtain ⟨l1, l2, l3, l4, l5, l6⟩ := h.lts
  have hs := hb'.size
  exact ⟨h.good, h.small, h.hN, h.len, (hb'.cell l1).trans h.h0, (hb'.cell l1).trans h.h1, (hb'.cell l1).trans h.h2, (hb'.cell l1).trans h.h3, (hb'.cell l1).trans h.h4, (hb'.cell l1).trans h.h5, (hb'.cell l1).trans h.h6,
    fun i t hi j v hj => (hb'.cell l2).trans (h.cl i t hi j v hj), fun i hi => (hb'.cell l3).trans (h.cc i hi), fun i hi => (hb'.cell l4).trans (h.cp i hi), fun i hi => (hb'.cell l5).trans (h.ck i hi),
    fun a b w2 hw => h.lk a b w2 (hw.trans (hb'.block _ l6)), by omega⟩

theorem Hd.mind (h : Hd W w (Mind hb lb cb pb kb mb N L dh kem es ckk cs Rs)) (g : Good L) (hs : L.length ≤ 1048576) (hN : N = L.length + 1) (hl : cs.length = L.length + 1) (hbx : BoxOk es L) : MindAt w hb lb cb pb kb mb N L dh kem cs := by
  have b0 := Hd.kth 0 h rfl
  have b1 := Hd.kth 1 h rfl
  have b2 := Hd.kth 2 h rfl
  have b3 := Hd.kth 3 h rfl
  have b4 := Hd.kth 4 h rfl
  have b5 := Hd.kth 5 h rfl
  refine ⟨g, hs, hN, hl, by rw [cell_of_heap b1]; rfl, by rw [cell_of_heap b1]; rfl, by rw [cell_of_heap b1]; rfl, by rw [cell_of_heap b1]; rfl, by rw [cell_of_heap b1]; rfl, by rw [cell_of_heap b1]; rfl, by rw [cell_of_heap b1]; rfl,
    fun i t hi j v hj => ?_, fun i hi => ?_, fun i hi => ?_, fun i hi => ?_, fun a b w2 hw => lookup_K a b w2 (hw.trans b5) hbx, ?_⟩
  · rw [cell_of_heap b2, List.getElem?_toArray]
    exact cellsOf_get hi hj
  · rw [cell_of_heap b0]
    have : i < cs.length := by omega
    simp [bools, on, List.getD, List.getElem?_eq_getElem this]
  · rw [cell_of_heap b3]
    simp [ints, pubs, hi]
  · rw [cell_of_heap b4]
    simp [ints, kpus, hi]
  · exact ⟨(Array.getElem?_eq_some_iff.1 b1).1, (Array.getElem?_eq_some_iff.1 b2).1, (Array.getElem?_eq_some_iff.1 b0).1, (Array.getElem?_eq_some_iff.1 b3).1, (Array.getElem?_eq_some_iff.1 b4).1, (Array.getElem?_eq_some_iff.1 b5).1⟩

theorem nm_range (L : List T) (t : T) : ∃ i : Nat, nm L t = i ∧ i ≤ L.length := by
  unfold nm
  cases h : find t L with
  | none => exact ⟨0, rfl, Nat.zero_le _⟩
  | some j => exact ⟨j + 1, rfl, find_lt h⟩
theorem MindAt.pub (h : MindAt w hb lb cb pb kb mb N L dh kem cs) (i : Nat) (hi : i < N) : ∃ p : Nat, p < N ∧ nm L (pubT (i : Int)) = p ∧ w.cell? ⟨pb, i, none⟩ = some (.int .i64 p) := by
  obtain ⟨p, e, hp⟩ := nm_range L (pubT (i : Int))
  exact ⟨p, by have := h.hN; omega, e, by rw [h.cp i hi, e]⟩
theorem MindAt.kpu (h : MindAt w hb lb cb pb kb mb N L dh kem cs) (i : Nat) (hi : i < N) : ∃ p : Nat, p < N ∧ nm L (kpuT (i : Int)) = p ∧ w.cell? ⟨kb, i, none⟩ = some (.int .i64 p) := by
  obtain ⟨p, e, hp⟩ := nm_range L (kpuT (i : Int))
  exact ⟨p, by have := h.hN; omega, e, by rw [h.ck i hi, e]⟩

end
end Go.Proofs.Ytpcfmafokkffgaa
namespace Go.Proofs.Ytpcfmafokkffgaa
open Go.RowKit

set_option maxRecDepth 100000 in
set_option maxHeartbeats 2000000 in
theorem one_m (k : Int) (s : ByteArray) (n a b c : Int) {w : World} {hb lb cb pb kb mb N : Nat} {L : List T} {dh kem : Bool} {cs : List Bool} (h : MindAt w hb lb cb pb kb mb N L dh kem cs) (ra0 : 0 ≤ a) (ra : a ≤ L.length) :
    Calls Try.prog 100 #[.pointer (some ⟨hb, 0, none⟩), .agg #[.int .i64 k, .string s, .int .u64 n, .int .i64 a, .int .i64 b, .int .i64 c]] w fun e w' => e = .returned (.bool (on cs a)) ∧ Below w.heap.size w w' := by
  obtain ⟨a, rfl⟩ : ∃ i : Nat, a = i := ⟨a.toNat, by omega⟩
  have za : (0 : Int) ≤ (a : Int) := by omega
  have ya : (a : Int) < (N : Int) := by have := h.hN; omega
  have xa : a < N := by omega
  clear ra0 ra
  obtain ⟨pa, hq⟩ : ∃ zz, on cs (a : Int) = zz := ⟨_, rfl⟩
  rw [hq]
  have Epa := hid hq
  clear hq
  go_enter Try.func100, Try.ntmps100
  go_wp2_with fail
  obtain ⟨w2, hw2⟩ : ∃ w2, w2 = w.alloc (.cells #[.int .i64 k, .string s, .int .u64 n, .int .i64 a, .int .i64 b, .int .i64 c] 47 (0, 0)) := ⟨_, rfl⟩
  have hbox : w2.heap[w.heap.size]? = some (.cells #[.int .i64 k, .string s, .int .u64 n, .int .i64 a, .int .i64 b, .int .i64 c] 47 (0, 0)) := by rw [hw2]; exact heap_at rfl
  have hbw : Below w.heap.size w w2 := by rw [hw2]; exact (Below.refl _ _).alloc (Nat.le_refl _) _
  have h2 := h.later hbw
  have hS := hbw.size
  rw [← hw2]
  clear hw2 h
  generalize hB : w.heap.size = B at *
  have d3 : ∀ x : Later w2, x.w.cell? ⟨B, 3, none⟩ = some (.int .i64 a) := fun x => x.cell (by rw [cell_of_heap hbox]; rfl)
  have k1 : ∀ x : Later w2, x.w.cell? ⟨hb, 1, none⟩ = some (.slice (some ⟨cb, 0, none⟩) N N) := fun x => x.cell h2.h1
  have ca : ∀ x : Later w2, x.w.cell? ⟨cb, a, none⟩ = some (.bool pa) := fun x => x.cell (by rw [← Epa.out]; exact h2.cc a xa)
  clear h2 hbox
  refine wp_region_calm (by kernel_rfl) (by kernel_rfl) ?_
  repeat (go_big_quiet_step (fail))
  refine wpQuiet_nil ?_
  intro w3 hw3
  obtain ⟨⟨w3, hb3⟩, rfl⟩ := hw3
  clear d3 k1 ca
  go_wp2_with fail
  go_ret
  exact ⟨rfl, by rw [hB]; exact hbw.trans (hb3.mono hS)⟩

set_option maxRecDepth 100000 in
set_option maxHeartbeats 2000000 in
theorem both_m (k : Int) (s : ByteArray) (n a b c : Int) {w : World} {hb lb cb pb kb mb N : Nat} {L : List T} {dh kem : Bool} {cs : List Bool} (h : MindAt w hb lb cb pb kb mb N L dh kem cs) (ra0 : 0 ≤ a) (ra : a ≤ L.length) (rb0 : 0 ≤ b) (rb : b ≤ L.length) :
    Calls Try.prog 104 #[.pointer (some ⟨hb, 0, none⟩), .agg #[.int .i64 k, .string s, .int .u64 n, .int .i64 a, .int .i64 b, .int .i64 c]] w fun e w' => e = .returned (.bool (on cs a && on cs b)) ∧ Below w.heap.size w w' := by
  obtain ⟨a, rfl⟩ : ∃ i : Nat, a = i := ⟨a.toNat, by omega⟩
  obtain ⟨b, rfl⟩ : ∃ i : Nat, b = i := ⟨b.toNat, by omega⟩
  have za : (0 : Int) ≤ (a : Int) := by omega
  have ya : (a : Int) < (N : Int) := by have := h.hN; omega
  have xa : a < N := by omega
  clear ra0 ra
  have zb : (0 : Int) ≤ (b : Int) := by omega
  have yb : (b : Int) < (N : Int) := by have := h.hN; omega
  have xb : b < N := by omega
  clear rb0 rb
  obtain ⟨pa, hq⟩ : ∃ zz, on cs (a : Int) = zz := ⟨_, rfl⟩
  rw [hq]
  have Epa := hid hq
  clear hq
  obtain ⟨qb, hq⟩ : ∃ zz, on cs (b : Int) = zz := ⟨_, rfl⟩
  rw [hq]
  have Eqb := hid hq
  clear hq
  go_enter Try.func104, Try.ntmps104
  go_wp2_with fail
  obtain ⟨w2, hw2⟩ : ∃ w2, w2 = w.alloc (.cells #[.int .i64 k, .string s, .int .u64 n, .int .i64 a, .int .i64 b, .int .i64 c] 47 (0, 0)) := ⟨_, rfl⟩
  have hbox : w2.heap[w.heap.size]? = some (.cells #[.int .i64 k, .string s, .int .u64 n, .int .i64 a, .int .i64 b, .int .i64 c] 47 (0, 0)) := by rw [hw2]; exact heap_at rfl
  have hbw : Below w.heap.size w w2 := by rw [hw2]; exact (Below.refl _ _).alloc (Nat.le_refl _) _
  have h2 := h.later hbw
  have hS := hbw.size
  rw [← hw2]
  clear hw2 h
  generalize hB : w.heap.size = B at *
  have d3 : ∀ x : Later w2, x.w.cell? ⟨B, 3, none⟩ = some (.int .i64 a) := fun x => x.cell (by rw [cell_of_heap hbox]; rfl)
  have d4 : ∀ x : Later w2, x.w.cell? ⟨B, 4, none⟩ = some (.int .i64 b) := fun x => x.cell (by rw [cell_of_heap hbox]; rfl)
  have k1 : ∀ x : Later w2, x.w.cell? ⟨hb, 1, none⟩ = some (.slice (some ⟨cb, 0, none⟩) N N) := fun x => x.cell h2.h1
  have ca : ∀ x : Later w2, x.w.cell? ⟨cb, a, none⟩ = some (.bool pa) := fun x => x.cell (by rw [← Epa.out]; exact h2.cc a xa)
  have cB : ∀ x : Later w2, x.w.cell? ⟨cb, b, none⟩ = some (.bool qb) := fun x => x.cell (by rw [← Eqb.out]; exact h2.cc b xb)
  clear h2 hbox
  cases pa
  · refine wp_region_calm (by kernel_rfl) (by kernel_rfl) ?_
    repeat (go_big_quiet_step (fail))
    refine wpQuiet_nil ?_
    intro w3 hw3
    obtain ⟨⟨w3, hb3⟩, rfl⟩ := hw3
    clear d3 d4 k1 ca cB
    go_wp2_with fail
    go_ret
    exact ⟨by simp, by rw [hB]; exact hbw.trans (hb3.mono hS)⟩
  · refine wp_region_calm (by kernel_rfl) (by kernel_rfl) ?_
    repeat (go_big_quiet_step (fail))
    refine wpQuiet_nil ?_
    intro w3 hw3
    obtain ⟨⟨w3, hb3⟩, rfl⟩ := hw3
    clear d3 d4 k1 ca cB
    go_wp2_with fail
    go_ret
    exact ⟨by simp, by rw [hB]; exact hbw.trans (hb3.mono hS)⟩

set_option maxRecDepth 100000 in
set_option maxHeartbeats 2000000 in
theorem open_m (a : Int) {w : World} {hb lb cb pb kb mb N : Nat} {L : List T} {dh kem : Bool} {cs : List Bool} (h : MindAt w hb lb cb pb kb mb N L dh kem cs) (ra0 : 0 ≤ a) (ra : a ≤ L.length) :
    Calls Try.prog 112 #[.pointer (some ⟨hb, 0, none⟩), .int .i64 a] w fun e w' => e = .returned (.bool (on cs a || on cs (nm L (pubT a)))) ∧ Below w.heap.size w w' := by
  obtain ⟨a, rfl⟩ : ∃ i : Nat, a = i := ⟨a.toNat, by omega⟩
  have za : (0 : Int) ≤ (a : Int) := by omega
  have ya : (a : Int) < (N : Int) := by have := h.hN; omega
  have xa : a < N := by omega
  clear ra0 ra
  obtain ⟨p, P, G, C⟩ := h.pub a xa
  have HG := hid G
  clear G
  rw [HG.out]
  obtain ⟨pa, hq⟩ : ∃ zz, on cs (a : Int) = zz := ⟨_, rfl⟩
  rw [hq]
  have Epa := hid hq
  clear hq
  obtain ⟨qa, hq⟩ : ∃ zz, on cs (p : Int) = zz := ⟨_, rfl⟩
  rw [hq]
  have Eqa := hid hq
  clear hq
  have zp : (0 : Int) ≤ (p : Int) := by omega
  have yp : (p : Int) < (N : Int) := by omega
  go_enter Try.func112, Try.ntmps112
  go_wp2_with fail
  have h2 := h
  clear h
  have k1 : ∀ x : Later w, x.w.cell? ⟨hb, 1, none⟩ = some (.slice (some ⟨cb, 0, none⟩) N N) := fun x => x.cell h2.h1
  have k2 : ∀ x : Later w, x.w.cell? ⟨hb, 2, none⟩ = some (.slice (some ⟨pb, 0, none⟩) N N) := fun x => x.cell h2.h2
  have ca : ∀ x : Later w, x.w.cell? ⟨cb, a, none⟩ = some (.bool pa) := fun x => x.cell (by rw [← Epa.out]; exact h2.cc a xa)
  have cp : ∀ x : Later w, x.w.cell? ⟨pb, a, none⟩ = some (.int .i64 p) := fun x => x.cell (by exact C)
  have cq : ∀ x : Later w, x.w.cell? ⟨cb, p, none⟩ = some (.bool qa) := fun x => x.cell (by rw [← Eqa.out]; exact h2.cc p P)
  clear h2 C
  cases pa
  · refine wp_region_calm (by kernel_rfl) (by kernel_rfl) ?_
    repeat (go_big_quiet_step (fail))
    refine wpQuiet_nil ?_
    intro w3 hw3
    obtain ⟨⟨w3, hb3⟩, rfl⟩ := hw3
    clear k1 k2 ca cp cq
    go_wp2_with fail
    go_ret
    exact ⟨by simp, hb3⟩
  · refine wp_region_calm (by kernel_rfl) (by kernel_rfl) ?_
    repeat (go_big_quiet_step (fail))
    refine wpQuiet_nil ?_
    intro w3 hw3
    obtain ⟨⟨w3, hb3⟩, rfl⟩ := hw3
    clear k1 k2 ca cp cq
    go_wp2_with fail
    go_ret
    exact ⟨by simp, hb3⟩

set_option maxRecDepth 100000 in
set_option maxHeartbeats 2000000 in
theorem wrap_m (k : Int) (s : ByteArray) (n a b c : Int) {w : World} {hb lb cb pb kb mb N : Nat} {L : List T} {dh kem : Bool} {cs : List Bool} (h : MindAt w hb lb cb pb kb mb N L dh kem cs) (ra0 : 0 ≤ a) (ra : a ≤ L.length) (rb0 : 0 ≤ b) (rb : b ≤ L.length) :
    Calls Try.prog 102 #[.pointer (some ⟨hb, 0, none⟩), .agg #[.int .i64 k, .string s, .int .u64 n, .int .i64 a, .int .i64 b, .int .i64 c]] w fun e w' => e = .returned (.bool (on cs b && (on cs a || on cs (nm L (kpuT a))))) ∧ Below w.heap.size w w' := by
  obtain ⟨a, rfl⟩ : ∃ i : Nat, a = i := ⟨a.toNat, by omega⟩
  obtain ⟨b, rfl⟩ : ∃ i : Nat, b = i := ⟨b.toNat, by omega⟩
  have za : (0 : Int) ≤ (a : Int) := by omega
  have ya : (a : Int) < (N : Int) := by have := h.hN; omega
  have xa : a < N := by omega
  clear ra0 ra
  have zb : (0 : Int) ≤ (b : Int) := by omega
  have yb : (b : Int) < (N : Int) := by have := h.hN; omega
  have xb : b < N := by omega
  clear rb0 rb
  obtain ⟨p, P, G, C⟩ := h.kpu a xa
  have HG := hid G
  clear G
  rw [HG.out]
  obtain ⟨pa, hq⟩ : ∃ zz, on cs (a : Int) = zz := ⟨_, rfl⟩
  rw [hq]
  have Epa := hid hq
  clear hq
  obtain ⟨qb, hq⟩ : ∃ zz, on cs (b : Int) = zz := ⟨_, rfl⟩
  rw [hq]
  have Eqb := hid hq
  clear hq
  obtain ⟨qa, hq⟩ : ∃ zz, on cs (p : Int) = zz := ⟨_, rfl⟩
  rw [hq]
  have Eqa := hid hq
  clear hq
  have zp : (0 : Int) ≤ (p : Int) := by omega
  have yp : (p : Int) < (N : Int) := by omega
  go_enter Try.func102, Try.ntmps102
  go_wp2_with fail
  obtain ⟨w2, hw2⟩ : ∃ w2, w2 = w.alloc (.cells #[.int .i64 k, .string s, .int .u64 n, .int .i64 a, .int .i64 b, .int .i64 c] 47 (0, 0)) := ⟨_, rfl⟩
  have hbox : w2.heap[w.heap.size]? = some (.cells #[.int .i64 k, .string s, .int .u64 n, .int .i64 a, .int .i64 b, .int .i64 c] 47 (0, 0)) := by rw [hw2]; exact heap_at rfl
  have hbw : Below w.heap.size w w2 := by rw [hw2]; exact (Below.refl _ _).alloc (Nat.le_refl _) _
  have h2 := h.later hbw
  have hS := hbw.size
  rw [← hw2]
  clear hw2 h C
  generalize hB : w.heap.size = B at *
  have C := h2.ck a xa
  rw [HG.out] at C
  have d3 : ∀ x : Later w2, x.w.cell? ⟨B, 3, none⟩ = some (.int .i64 a) := fun x => x.cell (by rw [cell_of_heap hbox]; rfl)
  have d4 : ∀ x : Later w2, x.w.cell? ⟨B, 4, none⟩ = some (.int .i64 b) := fun x => x.cell (by rw [cell_of_heap hbox]; rfl)
  have k1 : ∀ x : Later w2, x.w.cell? ⟨hb, 1, none⟩ = some (.slice (some ⟨cb, 0, none⟩) N N) := fun x => x.cell h2.h1
  have k3 : ∀ x : Later w2, x.w.cell? ⟨hb, 3, none⟩ = some (.slice (some ⟨kb, 0, none⟩) N N) := fun x => x.cell h2.h3
  have ca : ∀ x : Later w2, x.w.cell? ⟨cb, a, none⟩ = some (.bool pa) := fun x => x.cell (by rw [← Epa.out]; exact h2.cc a xa)
  have cB : ∀ x : Later w2, x.w.cell? ⟨cb, b, none⟩ = some (.bool qb) := fun x => x.cell (by rw [← Eqb.out]; exact h2.cc b xb)
  have cp : ∀ x : Later w2, x.w.cell? ⟨kb, a, none⟩ = some (.int .i64 p) := fun x => x.cell (by exact C)
  have cq : ∀ x : Later w2, x.w.cell? ⟨cb, p, none⟩ = some (.bool qa) := fun x => x.cell (by rw [← Eqa.out]; exact h2.cc p P)
  clear h2 hbox C
  cases qb
  · refine wp_region_calm (by kernel_rfl) (by kernel_rfl) ?_
    repeat (go_big_quiet_step (fail))
    refine wpQuiet_nil ?_
    intro w3 hw3
    obtain ⟨⟨w3, hb3⟩, rfl⟩ := hw3
    clear d3 d4 k1 k3 ca cB cp cq
    go_wp2_with fail
    go_ret
    exact ⟨by simp, by rw [hB]; exact hbw.trans (hb3.mono hS)⟩
  · cases pa
    · refine wp_region_calm (by kernel_rfl) (by kernel_rfl) ?_
      repeat (go_big_quiet_step (fail))
      refine wpQuiet_nil ?_
      intro w3 hw3
      obtain ⟨⟨w3, hb3⟩, rfl⟩ := hw3
      clear d3 d4 k1 k3 ca cB cp cq
      go_wp2_with fail
      go_ret
      exact ⟨by simp, by rw [hB]; exact hbw.trans (hb3.mono hS)⟩
    · refine wp_region_calm (by kernel_rfl) (by kernel_rfl) ?_
      repeat (go_big_quiet_step (fail))
      refine wpQuiet_nil ?_
      intro w3 hw3
      obtain ⟨⟨w3, hb3⟩, rfl⟩ := hw3
      clear d3 d4 k1 k3 ca cB cp cq
      go_wp2_with fail
      go_ret
      exact ⟨by simp, by rw [hB]; exact hbw.trans (hb3.mono hS)⟩

set_option maxHeartbeats 400000 in
theorem none_m (v : Value) (k : Int) (s : ByteArray) (n a b c : Int) (w : World) : Calls Try.prog 98 #[v, .agg #[.int .i64 k, .string s, .int .u64 n, .int .i64 a, .int .i64 b, .int .i64 c]] w fun e w' => e = .returned (.bool false) ∧ Below w.heap.size w w' := by
  go_enter Try.func98, Try.ntmps98
  go_wp2_with fail
  go_ret
  exact ⟨rfl, by first | exact Below.refl _ _ | exact (Below.refl _ _).alloc (Nat.le_refl _) _⟩

set_option maxHeartbeats 400000 in
theorem text_m (v : Value) (k : Int) (s : ByteArray) (n a b c : Int) (w : World) : Calls Try.prog 99 #[v, .agg #[.int .i64 k, .string s, .int .u64 n, .int .i64 a, .int .i64 b, .int .i64 c]] w fun e w' => e = .returned (.bool true) ∧ Below w.heap.size w w' := by
  go_enter Try.func99, Try.ntmps99
  go_wp2_with fail
  go_ret
  exact ⟨rfl, by first | exact Below.refl _ _ | exact (Below.refl _ _).alloc (Nat.le_refl _) _⟩

set_option maxRecDepth 100000 in
set_option maxHeartbeats 2000000 in
theorem seal_m (k : Int) (s : ByteArray) (n a b c : Int) {w : World} {hb lb cb pb kb mb N : Nat} {L : List T} {dh kem : Bool} {cs : List Bool} (h : MindAt w hb lb cb pb kb mb N L dh kem cs) (ra0 : 0 ≤ a) (ra : a ≤ L.length) (rb0 : 0 ≤ b) (rb : b ≤ L.length) (rc0 : 0 ≤ c) (rc : c ≤ L.length) :
    Calls Try.prog 105 #[.pointer (some ⟨hb, 0, none⟩), .agg #[.int .i64 k, .string s, .int .u64 n, .int .i64 a, .int .i64 b, .int .i64 c]] w fun e w' => e = .returned (.bool ((on cs a && on cs b) && on cs c)) ∧ Below w.heap.size w w' := by
  obtain ⟨a, rfl⟩ : ∃ i : Nat, a = i := ⟨a.toNat, by omega⟩
  obtain ⟨b, rfl⟩ : ∃ i : Nat, b = i := ⟨b.toNat, by omega⟩
  obtain ⟨c, rfl⟩ : ∃ i : Nat, c = i := ⟨c.toNat, by omega⟩
  have ha := ra
  have hb1 := rb
  have za : (0 : Int) ≤ (a : Int) := by omega
  have ya : (a : Int) < (N : Int) := by have := h.hN; omega
  have xa : a < N := by omega
  clear ra0 ra
  have zb : (0 : Int) ≤ (b : Int) := by omega
  have yb : (b : Int) < (N : Int) := by have := h.hN; omega
  have xb : b < N := by omega
  clear rb0 rb
  have zc : (0 : Int) ≤ (c : Int) := by omega
  have yc : (c : Int) < (N : Int) := by have := h.hN; omega
  have xc : c < N := by omega
  clear rc0 rc
  obtain ⟨pv, hq⟩ : ∃ zz, (on cs (a : Int) && on cs (b : Int)) = zz := ⟨_, rfl⟩
  rw [hq]
  have Epv := hid hq
  clear hq
  obtain ⟨pc, hq⟩ : ∃ zz, on cs (c : Int) = zz := ⟨_, rfl⟩
  rw [hq]
  have Epc := hid hq
  clear hq
  go_enter Try.func105, Try.ntmps105
  go_wp2_with fail
  obtain ⟨w2, hw2⟩ : ∃ w2, w2 = w.alloc (.cells #[.int .i64 k, .string s, .int .u64 n, .int .i64 a, .int .i64 b, .int .i64 c] 47 (0, 0)) := ⟨_, rfl⟩
  have hbox : w2.heap[w.heap.size]? = some (.cells #[.int .i64 k, .string s, .int .u64 n, .int .i64 a, .int .i64 b, .int .i64 c] 47 (0, 0)) := by rw [hw2]; exact heap_at rfl
  have hbw : Below w.heap.size w w2 := by rw [hw2]; exact (Below.refl _ _).alloc (Nat.le_refl _) _
  have h2 := h.later hbw
  have hS := hbw.size
  rw [← hw2]
  clear hw2 h
  generalize hB : w.heap.size = B at *
  have Hboth : Hid (∀ x : Later w2, Calls Try.prog 104 #[.pointer (some ⟨hb, 0, none⟩), .agg #[.int .i64 k, .string s, .int .u64 n, .int .i64 a, .int .i64 b, .int .i64 c]] x.w fun e w'' => e = .returned (.bool pv) ∧ ∃ y : Later w2, w'' = y.w) := hid fun x => by rw [← Epv.out]; exact Calls.calm (both_m k s n a b c (h2.later x.below) (by omega) ha (by omega) hb1)
  clear ha hb1
  have d0 : ∀ x : Later w2, x.w.cell? ⟨B, 0, none⟩ = some (.int .i64 k) := fun x => x.cell (by rw [cell_of_heap hbox]; rfl)
  have d1 : ∀ x : Later w2, x.w.cell? ⟨B, 1, none⟩ = some (.string s) := fun x => x.cell (by rw [cell_of_heap hbox]; rfl)
  have d2 : ∀ x : Later w2, x.w.cell? ⟨B, 2, none⟩ = some (.int .u64 n) := fun x => x.cell (by rw [cell_of_heap hbox]; rfl)
  have d3 : ∀ x : Later w2, x.w.cell? ⟨B, 3, none⟩ = some (.int .i64 a) := fun x => x.cell (by rw [cell_of_heap hbox]; rfl)
  have d4 : ∀ x : Later w2, x.w.cell? ⟨B, 4, none⟩ = some (.int .i64 b) := fun x => x.cell (by rw [cell_of_heap hbox]; rfl)
  have d5 : ∀ x : Later w2, x.w.cell? ⟨B, 5, none⟩ = some (.int .i64 c) := fun x => x.cell (by rw [cell_of_heap hbox]; rfl)
  have k1 : ∀ x : Later w2, x.w.cell? ⟨hb, 1, none⟩ = some (.slice (some ⟨cb, 0, none⟩) N N) := fun x => x.cell h2.h1
  have cC : ∀ x : Later w2, x.w.cell? ⟨cb, c, none⟩ = some (.bool pc) := fun x => x.cell (by rw [← Epc.out]; exact h2.cc c xc)
  clear h2 hbox
  cases pv
  · refine wp_region_calm (by kernel_rfl) (by kernel_rfl) ?_
    repeat (go_big_quiet_step ((go_at_call 104; exact Hboth.out _)))
    refine wpQuiet_nil ?_
    intro w3 hw3
    obtain ⟨⟨w3, hb3⟩, rfl⟩ := hw3
    clear d0 d1 d2 d3 d4 d5 k1 cC
    go_wp2_with fail
    go_ret
    exact ⟨by simp, by rw [hB]; exact hbw.trans (hb3.mono hS)⟩
  · refine wp_region_calm (by kernel_rfl) (by kernel_rfl) ?_
    repeat (go_big_quiet_step ((go_at_call 104; exact Hboth.out _)))
    refine wpQuiet_nil ?_
    intro w3 hw3
    obtain ⟨⟨w3, hb3⟩, rfl⟩ := hw3
    clear d0 d1 d2 d3 d4 d5 k1 cC
    go_wp2_with fail
    go_ret
    exact ⟨by simp, by rw [hB]; exact hbw.trans (hb3.mono hS)⟩

set_option maxRecDepth 100000 in
set_option maxHeartbeats 16000000 in
theorem share_m (k : Int) (s : ByteArray) (n a b c : Int) {w : World} {hb lb cb pb kb mb N : Nat} {L : List T} {dh kem : Bool} {cs : List Bool} (h : MindAt w hb lb cb pb kb mb N L dh kem cs) (ra0 : 0 ≤ a) (ra : a ≤ L.length) (rb0 : 0 ≤ b) (rb : b ≤ L.length) :
    Calls Try.prog 101 #[.pointer (some ⟨hb, 0, none⟩), .agg #[.int .i64 k, .string s, .int .u64 n, .int .i64 a, .int .i64 b, .int .i64 c]] w fun e w' => e = .returned (.bool ((on cs a && (on cs b || on cs (nm L (pubT b)))) || (on cs b && (on cs a || on cs (nm L (pubT a)))) || (dh && on cs (nm L (pubT a)) && on cs (nm L (pubT b))))) ∧ Below w.heap.size w w' := by
  obtain ⟨a, rfl⟩ : ∃ i : Nat, a = i := ⟨a.toNat, by omega⟩
  obtain ⟨b, rfl⟩ : ∃ i : Nat, b = i := ⟨b.toNat, by omega⟩
  have ha := ra
  have hb1 := rb
  have za : (0 : Int) ≤ (a : Int) := by omega
  have ya : (a : Int) < (N : Int) := by have := h.hN; omega
  have xa : a < N := by omega
  clear ra0 ra
  have zb : (0 : Int) ≤ (b : Int) := by omega
  have yb : (b : Int) < (N : Int) := by have := h.hN; omega
  have xb : b < N := by omega
  clear rb0 rb
  obtain ⟨ob, hq⟩ : ∃ zz, (on cs (b : Int) || on cs (nm L (pubT (b : Int)))) = zz := ⟨_, rfl⟩
  rw [hq]
  have Eob := hid hq
  clear hq
  obtain ⟨oa, hq⟩ : ∃ zz, (on cs (a : Int) || on cs (nm L (pubT (a : Int)))) = zz := ⟨_, rfl⟩
  rw [hq]
  have Eoa := hid hq
  clear hq
  obtain ⟨pa, hq⟩ : ∃ zz, on cs (a : Int) = zz := ⟨_, rfl⟩
  rw [hq]
  have Epa := hid hq
  clear hq
  obtain ⟨vb, hq⟩ : ∃ zz, on cs (b : Int) = zz := ⟨_, rfl⟩
  rw [hq]
  have Evb := hid hq
  clear hq
  obtain ⟨p, P, G, _⟩ := h.pub a xa
  obtain ⟨q, Q, G2, _⟩ := h.pub b xb
  have HG := hid G
  have HG2 := hid G2
  clear G G2
  rw [HG.out, HG2.out]
  obtain ⟨qa, hq⟩ : ∃ zz, on cs (p : Int) = zz := ⟨_, rfl⟩
  rw [hq]
  have Eqa := hid hq
  clear hq
  obtain ⟨qv, hq⟩ : ∃ zz, on cs (q : Int) = zz := ⟨_, rfl⟩
  rw [hq]
  have Eqv := hid hq
  clear hq
  have zp : (0 : Int) ≤ (p : Int) := by omega
  have yp : (p : Int) < (N : Int) := by omega
  have zq : (0 : Int) ≤ (q : Int) := by omega
  have yq : (q : Int) < (N : Int) := by omega
  go_enter Try.func101, Try.ntmps101
  go_wp2_with fail
  obtain ⟨w2, hw2⟩ : ∃ w2, w2 = w.alloc (.cells #[.int .i64 k, .string s, .int .u64 n, .int .i64 a, .int .i64 b, .int .i64 c] 47 (0, 0)) := ⟨_, rfl⟩
  have hbox : w2.heap[w.heap.size]? = some (.cells #[.int .i64 k, .string s, .int .u64 n, .int .i64 a, .int .i64 b, .int .i64 c] 47 (0, 0)) := by rw [hw2]; exact heap_at rfl
  have hbw : Below w.heap.size w w2 := by rw [hw2]; exact (Below.refl _ _).alloc (Nat.le_refl _) _
  have h2 := h.later hbw
  have hS := hbw.size
  rw [← hw2]
  clear hw2 h
  generalize hB : w.heap.size = B at *
  have Hob : Hid (∀ x : Later w2, Calls Try.prog 112 #[.pointer (some ⟨hb, 0, none⟩), .int .i64 b] x.w fun e w'' => e = .returned (.bool ob) ∧ ∃ y : Later w2, w'' = y.w) := hid fun x => by rw [← Eob.out]; exact Calls.calm (open_m b (h2.later x.below) (by omega) hb1)
  have Hoa : Hid (∀ x : Later w2, Calls Try.prog 112 #[.pointer (some ⟨hb, 0, none⟩), .int .i64 a] x.w fun e w'' => e = .returned (.bool oa) ∧ ∃ y : Later w2, w'' = y.w) := hid fun x => by rw [← Eoa.out]; exact Calls.calm (open_m a (h2.later x.below) (by omega) ha)
  clear ha hb1
  have H2 := hid h2
  have Hbx := hid hbox
  have d3 : ∀ x : Later w2, x.w.cell? ⟨B, 3, none⟩ = some (.int .i64 a) := fun x => x.cell (by rw [cell_of_heap hbox]; rfl)
  have d4 : ∀ x : Later w2, x.w.cell? ⟨B, 4, none⟩ = some (.int .i64 b) := fun x => x.cell (by rw [cell_of_heap hbox]; rfl)
  have k1 : ∀ x : Later w2, x.w.cell? ⟨hb, 1, none⟩ = some (.slice (some ⟨cb, 0, none⟩) N N) := fun x => x.cell h2.h1
  have ca : ∀ x : Later w2, x.w.cell? ⟨cb, a, none⟩ = some (.bool pa) := fun x => x.cell (by rw [← Epa.out]; exact h2.cc a xa)
  have cB : ∀ x : Later w2, x.w.cell? ⟨cb, b, none⟩ = some (.bool vb) := fun x => x.cell (by rw [← Evb.out]; exact h2.cc b xb)
  clear h2 hbox
  cases pa
  · cases vb
    · refine wp_region_calm (by kernel_rfl) (by kernel_rfl) ?_
      repeat (go_big_quiet_step ((first | (go_at_call 112; with_reducible exact Hob.out _) | (go_at_call 112; with_reducible exact Hoa.out _))))
      refine wpQuiet_nil ?_
      intro w3 hw3
      obtain ⟨⟨w3, hb3⟩, rfl⟩ := hw3
      clear d3 d4 k1 ca cB
      go_wp2_with fail
      have h3 := H2.out.later hb3
      have hbx3 := (hb3.block B (Array.getElem?_eq_some_iff.1 Hbx.out).1).trans Hbx.out
      have hS3 := hb3.size
      have d3 : ∀ x : Later w3, x.w.cell? ⟨B, 3, none⟩ = some (.int .i64 a) := fun x => x.cell (by rw [cell_of_heap hbx3]; rfl)
      have d4 : ∀ x : Later w3, x.w.cell? ⟨B, 4, none⟩ = some (.int .i64 b) := fun x => x.cell (by rw [cell_of_heap hbx3]; rfl)
      have k1 : ∀ x : Later w3, x.w.cell? ⟨hb, 1, none⟩ = some (.slice (some ⟨cb, 0, none⟩) N N) := fun x => x.cell h3.h1
      have k2 : ∀ x : Later w3, x.w.cell? ⟨hb, 2, none⟩ = some (.slice (some ⟨pb, 0, none⟩) N N) := fun x => x.cell h3.h2
      have k5 : ∀ x : Later w3, x.w.cell? ⟨hb, 5, none⟩ = some (.bool dh) := fun x => x.cell h3.h5
      have cp : ∀ x : Later w3, x.w.cell? ⟨pb, a, none⟩ = some (.int .i64 p) := fun x => x.cell (by rw [← HG.out]; exact h3.cp a xa)
      have cq : ∀ x : Later w3, x.w.cell? ⟨pb, b, none⟩ = some (.int .i64 q) := fun x => x.cell (by rw [← HG2.out]; exact h3.cp b xb)
      have ea : ∀ x : Later w3, x.w.cell? ⟨cb, p, none⟩ = some (.bool qa) := fun x => x.cell (by rw [← Eqa.out]; exact h3.cc p P)
      have eb : ∀ x : Later w3, x.w.cell? ⟨cb, q, none⟩ = some (.bool qv) := fun x => x.cell (by rw [← Eqv.out]; exact h3.cc q Q)
      clear h3 hbx3 Hbx H2
      cases dh
      · refine wp_region_calm (by kernel_rfl) (by kernel_rfl) ?_
        repeat (go_big_quiet_step (fail))
        refine wpQuiet_nil ?_
        intro w4 hw4
        obtain ⟨⟨w4, hb4⟩, rfl⟩ := hw4
        clear d3 d4 k1 k2 k5 cp cq ea eb
        go_wp2_with fail
        go_ret
        exact ⟨by simp, by rw [hB]; exact hbw.trans (hb3.mono hS |>.trans (hb4.mono (Nat.le_trans hS hS3)))⟩
      · cases qa
        · refine wp_region_calm (by kernel_rfl) (by kernel_rfl) ?_
          repeat (go_big_quiet_step (fail))
          refine wpQuiet_nil ?_
          intro w4 hw4
          obtain ⟨⟨w4, hb4⟩, rfl⟩ := hw4
          clear d3 d4 k1 k2 k5 cp cq ea eb
          go_wp2_with fail
          go_ret
          exact ⟨by simp, by rw [hB]; exact hbw.trans (hb3.mono hS |>.trans (hb4.mono (Nat.le_trans hS hS3)))⟩
        · refine wp_region_calm (by kernel_rfl) (by kernel_rfl) ?_
          repeat (go_big_quiet_step (fail))
          refine wpQuiet_nil ?_
          intro w4 hw4
          obtain ⟨⟨w4, hb4⟩, rfl⟩ := hw4
          clear d3 d4 k1 k2 k5 cp cq ea eb
          go_wp2_with fail
          go_ret
          exact ⟨by simp, by rw [hB]; exact hbw.trans (hb3.mono hS |>.trans (hb4.mono (Nat.le_trans hS hS3)))⟩
    · cases oa
      · refine wp_region_calm (by kernel_rfl) (by kernel_rfl) ?_
        repeat (go_big_quiet_step ((first | (go_at_call 112; with_reducible exact Hob.out _) | (go_at_call 112; with_reducible exact Hoa.out _))))
        refine wpQuiet_nil ?_
        intro w3 hw3
        obtain ⟨⟨w3, hb3⟩, rfl⟩ := hw3
        clear d3 d4 k1 ca cB
        go_wp2_with fail
        have h3 := H2.out.later hb3
        have hbx3 := (hb3.block B (Array.getElem?_eq_some_iff.1 Hbx.out).1).trans Hbx.out
        have hS3 := hb3.size
        have d3 : ∀ x : Later w3, x.w.cell? ⟨B, 3, none⟩ = some (.int .i64 a) := fun x => x.cell (by rw [cell_of_heap hbx3]; rfl)
        have d4 : ∀ x : Later w3, x.w.cell? ⟨B, 4, none⟩ = some (.int .i64 b) := fun x => x.cell (by rw [cell_of_heap hbx3]; rfl)
        have k1 : ∀ x : Later w3, x.w.cell? ⟨hb, 1, none⟩ = some (.slice (some ⟨cb, 0, none⟩) N N) := fun x => x.cell h3.h1
        have k2 : ∀ x : Later w3, x.w.cell? ⟨hb, 2, none⟩ = some (.slice (some ⟨pb, 0, none⟩) N N) := fun x => x.cell h3.h2
        have k5 : ∀ x : Later w3, x.w.cell? ⟨hb, 5, none⟩ = some (.bool dh) := fun x => x.cell h3.h5
        have cp : ∀ x : Later w3, x.w.cell? ⟨pb, a, none⟩ = some (.int .i64 p) := fun x => x.cell (by rw [← HG.out]; exact h3.cp a xa)
        have cq : ∀ x : Later w3, x.w.cell? ⟨pb, b, none⟩ = some (.int .i64 q) := fun x => x.cell (by rw [← HG2.out]; exact h3.cp b xb)
        have ea : ∀ x : Later w3, x.w.cell? ⟨cb, p, none⟩ = some (.bool qa) := fun x => x.cell (by rw [← Eqa.out]; exact h3.cc p P)
        have eb : ∀ x : Later w3, x.w.cell? ⟨cb, q, none⟩ = some (.bool qv) := fun x => x.cell (by rw [← Eqv.out]; exact h3.cc q Q)
        clear h3 hbx3 Hbx H2
        cases dh
        · refine wp_region_calm (by kernel_rfl) (by kernel_rfl) ?_
          repeat (go_big_quiet_step (fail))
          refine wpQuiet_nil ?_
          intro w4 hw4
          obtain ⟨⟨w4, hb4⟩, rfl⟩ := hw4
          clear d3 d4 k1 k2 k5 cp cq ea eb
          go_wp2_with fail
          go_ret
          exact ⟨by simp, by rw [hB]; exact hbw.trans (hb3.mono hS |>.trans (hb4.mono (Nat.le_trans hS hS3)))⟩
        · cases qa
          · refine wp_region_calm (by kernel_rfl) (by kernel_rfl) ?_
            repeat (go_big_quiet_step (fail))
            refine wpQuiet_nil ?_
            intro w4 hw4
            obtain ⟨⟨w4, hb4⟩, rfl⟩ := hw4
            clear d3 d4 k1 k2 k5 cp cq ea eb
            go_wp2_with fail
            go_ret
            exact ⟨by simp, by rw [hB]; exact hbw.trans (hb3.mono hS |>.trans (hb4.mono (Nat.le_trans hS hS3)))⟩
          · refine wp_region_calm (by kernel_rfl) (by kernel_rfl) ?_
            repeat (go_big_quiet_step (fail))
            refine wpQuiet_nil ?_
            intro w4 hw4
            obtain ⟨⟨w4, hb4⟩, rfl⟩ := hw4
            clear d3 d4 k1 k2 k5 cp cq ea eb
            go_wp2_with fail
            go_ret
            exact ⟨by simp, by rw [hB]; exact hbw.trans (hb3.mono hS |>.trans (hb4.mono (Nat.le_trans hS hS3)))⟩
      · refine wp_region_calm (by kernel_rfl) (by kernel_rfl) ?_
        repeat (go_big_quiet_step ((first | (go_at_call 112; with_reducible exact Hob.out _) | (go_at_call 112; with_reducible exact Hoa.out _))))
        refine wpQuiet_nil ?_
        intro w3 hw3
        obtain ⟨⟨w3, hb3⟩, rfl⟩ := hw3
        clear d3 d4 k1 ca cB
        go_wp2_with fail
        go_ret
        exact ⟨by simp, by rw [hB]; exact hbw.trans (hb3.mono hS)⟩
  · cases ob
    · cases vb
      · refine wp_region_calm (by kernel_rfl) (by kernel_rfl) ?_
        repeat (go_big_quiet_step ((first | (go_at_call 112; with_reducible exact Hob.out _) | (go_at_call 112; with_reducible exact Hoa.out _))))
        refine wpQuiet_nil ?_
        intro w3 hw3
        obtain ⟨⟨w3, hb3⟩, rfl⟩ := hw3
        clear d3 d4 k1 ca cB
        go_wp2_with fail
        have h3 := H2.out.later hb3
        have hbx3 := (hb3.block B (Array.getElem?_eq_some_iff.1 Hbx.out).1).trans Hbx.out
        have hS3 := hb3.size
        have d3 : ∀ x : Later w3, x.w.cell? ⟨B, 3, none⟩ = some (.int .i64 a) := fun x => x.cell (by rw [cell_of_heap hbx3]; rfl)
        have d4 : ∀ x : Later w3, x.w.cell? ⟨B, 4, none⟩ = some (.int .i64 b) := fun x => x.cell (by rw [cell_of_heap hbx3]; rfl)
        have k1 : ∀ x : Later w3, x.w.cell? ⟨hb, 1, none⟩ = some (.slice (some ⟨cb, 0, none⟩) N N) := fun x => x.cell h3.h1
        have k2 : ∀ x : Later w3, x.w.cell? ⟨hb, 2, none⟩ = some (.slice (some ⟨pb, 0, none⟩) N N) := fun x => x.cell h3.h2
        have k5 : ∀ x : Later w3, x.w.cell? ⟨hb, 5, none⟩ = some (.bool dh) := fun x => x.cell h3.h5
        have cp : ∀ x : Later w3, x.w.cell? ⟨pb, a, none⟩ = some (.int .i64 p) := fun x => x.cell (by rw [← HG.out]; exact h3.cp a xa)
        have cq : ∀ x : Later w3, x.w.cell? ⟨pb, b, none⟩ = some (.int .i64 q) := fun x => x.cell (by rw [← HG2.out]; exact h3.cp b xb)
        have ea : ∀ x : Later w3, x.w.cell? ⟨cb, p, none⟩ = some (.bool qa) := fun x => x.cell (by rw [← Eqa.out]; exact h3.cc p P)
        have eb : ∀ x : Later w3, x.w.cell? ⟨cb, q, none⟩ = some (.bool qv) := fun x => x.cell (by rw [← Eqv.out]; exact h3.cc q Q)
        clear h3 hbx3 Hbx H2
        cases dh
        · refine wp_region_calm (by kernel_rfl) (by kernel_rfl) ?_
          repeat (go_big_quiet_step (fail))
          refine wpQuiet_nil ?_
          intro w4 hw4
          obtain ⟨⟨w4, hb4⟩, rfl⟩ := hw4
          clear d3 d4 k1 k2 k5 cp cq ea eb
          go_wp2_with fail
          go_ret
          exact ⟨by simp, by rw [hB]; exact hbw.trans (hb3.mono hS |>.trans (hb4.mono (Nat.le_trans hS hS3)))⟩
        · cases qa
          · refine wp_region_calm (by kernel_rfl) (by kernel_rfl) ?_
            repeat (go_big_quiet_step (fail))
            refine wpQuiet_nil ?_
            intro w4 hw4
            obtain ⟨⟨w4, hb4⟩, rfl⟩ := hw4
            clear d3 d4 k1 k2 k5 cp cq ea eb
            go_wp2_with fail
            go_ret
            exact ⟨by simp, by rw [hB]; exact hbw.trans (hb3.mono hS |>.trans (hb4.mono (Nat.le_trans hS hS3)))⟩
          · refine wp_region_calm (by kernel_rfl) (by kernel_rfl) ?_
            repeat (go_big_quiet_step (fail))
            refine wpQuiet_nil ?_
            intro w4 hw4
            obtain ⟨⟨w4, hb4⟩, rfl⟩ := hw4
            clear d3 d4 k1 k2 k5 cp cq ea eb
            go_wp2_with fail
            go_ret
            exact ⟨by simp, by rw [hB]; exact hbw.trans (hb3.mono hS |>.trans (hb4.mono (Nat.le_trans hS hS3)))⟩
      · cases oa
        · refine wp_region_calm (by kernel_rfl) (by kernel_rfl) ?_
          repeat (go_big_quiet_step ((first | (go_at_call 112; with_reducible exact Hob.out _) | (go_at_call 112; with_reducible exact Hoa.out _))))
          refine wpQuiet_nil ?_
          intro w3 hw3
          obtain ⟨⟨w3, hb3⟩, rfl⟩ := hw3
          clear d3 d4 k1 ca cB
          go_wp2_with fail
          have h3 := H2.out.later hb3
          have hbx3 := (hb3.block B (Array.getElem?_eq_some_iff.1 Hbx.out).1).trans Hbx.out
          have hS3 := hb3.size
          have d3 : ∀ x : Later w3, x.w.cell? ⟨B, 3, none⟩ = some (.int .i64 a) := fun x => x.cell (by rw [cell_of_heap hbx3]; rfl)
          have d4 : ∀ x : Later w3, x.w.cell? ⟨B, 4, none⟩ = some (.int .i64 b) := fun x => x.cell (by rw [cell_of_heap hbx3]; rfl)
          have k1 : ∀ x : Later w3, x.w.cell? ⟨hb, 1, none⟩ = some (.slice (some ⟨cb, 0, none⟩) N N) := fun x => x.cell h3.h1
          have k2 : ∀ x : Later w3, x.w.cell? ⟨hb, 2, none⟩ = some (.slice (some ⟨pb, 0, none⟩) N N) := fun x => x.cell h3.h2
          have k5 : ∀ x : Later w3, x.w.cell? ⟨hb, 5, none⟩ = some (.bool dh) := fun x => x.cell h3.h5
          have cp : ∀ x : Later w3, x.w.cell? ⟨pb, a, none⟩ = some (.int .i64 p) := fun x => x.cell (by rw [← HG.out]; exact h3.cp a xa)
          have cq : ∀ x : Later w3, x.w.cell? ⟨pb, b, none⟩ = some (.int .i64 q) := fun x => x.cell (by rw [← HG2.out]; exact h3.cp b xb)
          have ea : ∀ x : Later w3, x.w.cell? ⟨cb, p, none⟩ = some (.bool qa) := fun x => x.cell (by rw [← Eqa.out]; exact h3.cc p P)
          have eb : ∀ x : Later w3, x.w.cell? ⟨cb, q, none⟩ = some (.bool qv) := fun x => x.cell (by rw [← Eqv.out]; exact h3.cc q Q)
          clear h3 hbx3 Hbx H2
          cases dh
          · refine wp_region_calm (by kernel_rfl) (by kernel_rfl) ?_
            repeat (go_big_quiet_step (fail))
            refine wpQuiet_nil ?_
            intro w4 hw4
            obtain ⟨⟨w4, hb4⟩, rfl⟩ := hw4
            clear d3 d4 k1 k2 k5 cp cq ea eb
            go_wp2_with fail
            go_ret
            exact ⟨by simp, by rw [hB]; exact hbw.trans (hb3.mono hS |>.trans (hb4.mono (Nat.le_trans hS hS3)))⟩
          · cases qa
            · refine wp_region_calm (by kernel_rfl) (by kernel_rfl) ?_
              repeat (go_big_quiet_step (fail))
              refine wpQuiet_nil ?_
              intro w4 hw4
              obtain ⟨⟨w4, hb4⟩, rfl⟩ := hw4
              clear d3 d4 k1 k2 k5 cp cq ea eb
              go_wp2_with fail
              go_ret
              exact ⟨by simp, by rw [hB]; exact hbw.trans (hb3.mono hS |>.trans (hb4.mono (Nat.le_trans hS hS3)))⟩
            · refine wp_region_calm (by kernel_rfl) (by kernel_rfl) ?_
              repeat (go_big_quiet_step (fail))
              refine wpQuiet_nil ?_
              intro w4 hw4
              obtain ⟨⟨w4, hb4⟩, rfl⟩ := hw4
              clear d3 d4 k1 k2 k5 cp cq ea eb
              go_wp2_with fail
              go_ret
              exact ⟨by simp, by rw [hB]; exact hbw.trans (hb3.mono hS |>.trans (hb4.mono (Nat.le_trans hS hS3)))⟩
        · refine wp_region_calm (by kernel_rfl) (by kernel_rfl) ?_
          repeat (go_big_quiet_step ((first | (go_at_call 112; with_reducible exact Hob.out _) | (go_at_call 112; with_reducible exact Hoa.out _))))
          refine wpQuiet_nil ?_
          intro w3 hw3
          obtain ⟨⟨w3, hb3⟩, rfl⟩ := hw3
          clear d3 d4 k1 ca cB
          go_wp2_with fail
          go_ret
          exact ⟨by simp, by rw [hB]; exact hbw.trans (hb3.mono hS)⟩
    · refine wp_region_calm (by kernel_rfl) (by kernel_rfl) ?_
      repeat (go_big_quiet_step ((first | (go_at_call 112; with_reducible exact Hob.out _) | (go_at_call 112; with_reducible exact Hoa.out _))))
      refine wpQuiet_nil ?_
      intro w3 hw3
      obtain ⟨⟨w3, hb3⟩, rfl⟩ := hw3
      clear d3 d4 k1 ca cB
      go_wp2_with fail
      go_ret
      exact ⟨by simp, by rw [hB]; exact hbw.trans (hb3.mono hS)⟩

set_option maxRecDepth 100000 in
set_option maxHeartbeats 16000000 in
theorem kem_m (k : Int) (s : ByteArray) (n a b c : Int) {w : World} {hb lb cb pb kb mb N : Nat} {L : List T} {dh kem : Bool} {cs : List Bool} (h : MindAt w hb lb cb pb kb mb N L dh kem cs) (ra0 : 0 ≤ a) (ra : a ≤ L.length) (rb0 : 0 ≤ b) (rb : b ≤ L.length) :
    Calls Try.prog 103 #[.pointer (some ⟨hb, 0, none⟩), .agg #[.int .i64 k, .string s, .int .u64 n, .int .i64 a, .int .i64 b, .int .i64 c]] w fun e w' => e = .returned (.bool ((on cs b && (on cs a || on cs (nm L (kpuT a)))) || (on cs (nm L (boxT a b)) && (kem || on cs a)))) ∧ Below w.heap.size w w' := by
  obtain ⟨a, rfl⟩ : ∃ i : Nat, a = i := ⟨a.toNat, by omega⟩
  obtain ⟨b, rfl⟩ : ∃ i : Nat, b = i := ⟨b.toNat, by omega⟩
  have ha := ra
  have hb1 := rb
  have za : (0 : Int) ≤ (a : Int) := by omega
  have ya : (a : Int) < (N : Int) := by have := h.hN; omega
  have xa : a < N := by omega
  clear ra0 ra
  have zb : (0 : Int) ≤ (b : Int) := by omega
  have yb : (b : Int) < (N : Int) := by have := h.hN; omega
  have xb : b < N := by omega
  clear rb0 rb
  obtain ⟨wv, hq⟩ : ∃ zz, (on cs (b : Int) && (on cs (a : Int) || on cs (nm L (kpuT (a : Int))))) = zz := ⟨_, rfl⟩
  rw [hq]
  have Ewv := hid hq
  clear hq
  obtain ⟨pa, hq⟩ : ∃ zz, on cs (a : Int) = zz := ⟨_, rfl⟩
  rw [hq]
  have Epa := hid hq
  clear hq
  obtain ⟨p, G, P⟩ := nm_range L (boxT (a : Int) (b : Int))
  have P : p < N := by have := h.hN; omega
  have HG := hid G
  clear G
  rw [HG.out]
  obtain ⟨bx, hq⟩ : ∃ zz, on cs (p : Int) = zz := ⟨_, rfl⟩
  rw [hq]
  have Ebx := hid hq
  clear hq
  have zp : (0 : Int) ≤ (p : Int) := by omega
  have yp : (p : Int) < (N : Int) := by omega
  go_enter Try.func103, Try.ntmps103
  go_wp2_with fail
  obtain ⟨w2, hw2⟩ : ∃ w2, w2 = w.alloc (.cells #[.int .i64 k, .string s, .int .u64 n, .int .i64 a, .int .i64 b, .int .i64 c] 47 (0, 0)) := ⟨_, rfl⟩
  have hbox : w2.heap[w.heap.size]? = some (.cells #[.int .i64 k, .string s, .int .u64 n, .int .i64 a, .int .i64 b, .int .i64 c] 47 (0, 0)) := by rw [hw2]; exact heap_at rfl
  have hbw : Below w.heap.size w w2 := by rw [hw2]; exact (Below.refl _ _).alloc (Nat.le_refl _) _
  have h2 := h.later hbw
  have hS := hbw.size
  rw [← hw2]
  clear hw2 h
  generalize hB : w.heap.size = B at *
  have H2 := hid h2
  have Hbx := hid hbox
  have d3 : ∀ x : Later w2, x.w.cell? ⟨B, 3, none⟩ = some (.int .i64 a) := fun x => x.cell (by rw [cell_of_heap hbox]; rfl)
  have d4 : ∀ x : Later w2, x.w.cell? ⟨B, 4, none⟩ = some (.int .i64 b) := fun x => x.cell (by rw [cell_of_heap hbox]; rfl)
  have k1 : ∀ x : Later w2, x.w.cell? ⟨hb, 1, none⟩ = some (.slice (some ⟨cb, 0, none⟩) N N) := fun x => x.cell h2.h1
  have k4 : ∀ x : Later w2, x.w.cell? ⟨hb, 4, none⟩ = some (.map (some mb)) := fun x => x.cell h2.h4
  have hlk : ∀ x : Later w2, (Instr.lookup 136 (.map (some mb)) (.agg #[.int .i64 a, .int .i64 b]) false).run Try.prog x.w = .ok (.int .i64 p) x.w := fun x => by rw [← HG.out]; exact h2.lk _ _ _ (x.below.block _ h2.lts.2.2.2.2.2)
  have cp : ∀ x : Later w2, x.w.cell? ⟨cb, p, none⟩ = some (.bool bx) := fun x => x.cell (by rw [← Ebx.out]; exact h2.cc p P)
  clear h2 hbox
  refine wp_region_calm (by kernel_rfl) (by kernel_rfl) ?_
  repeat (go_big_quiet_step (fail))
  refine wpQuiet_nil ?_
  intro w3 hw3
  obtain ⟨⟨w3, hb3⟩, rfl⟩ := hw3
  clear d3 d4 k1 k4 hlk cp
  go_wp2_with fail
  have h3 := H2.out.later hb3
  have hbx3 := (hb3.block B (Array.getElem?_eq_some_iff.1 Hbx.out).1).trans Hbx.out
  have hS3 := hb3.size
  have d0 : ∀ x : Later w3, x.w.cell? ⟨B, 0, none⟩ = some (.int .i64 k) := fun x => x.cell (by rw [cell_of_heap hbx3]; rfl)
  have d1 : ∀ x : Later w3, x.w.cell? ⟨B, 1, none⟩ = some (.string s) := fun x => x.cell (by rw [cell_of_heap hbx3]; rfl)
  have d2 : ∀ x : Later w3, x.w.cell? ⟨B, 2, none⟩ = some (.int .u64 n) := fun x => x.cell (by rw [cell_of_heap hbx3]; rfl)
  have d3 : ∀ x : Later w3, x.w.cell? ⟨B, 3, none⟩ = some (.int .i64 a) := fun x => x.cell (by rw [cell_of_heap hbx3]; rfl)
  have d4 : ∀ x : Later w3, x.w.cell? ⟨B, 4, none⟩ = some (.int .i64 b) := fun x => x.cell (by rw [cell_of_heap hbx3]; rfl)
  have d5 : ∀ x : Later w3, x.w.cell? ⟨B, 5, none⟩ = some (.int .i64 c) := fun x => x.cell (by rw [cell_of_heap hbx3]; rfl)
  have k1 : ∀ x : Later w3, x.w.cell? ⟨hb, 1, none⟩ = some (.slice (some ⟨cb, 0, none⟩) N N) := fun x => x.cell h3.h1
  have k6 : ∀ x : Later w3, x.w.cell? ⟨hb, 6, none⟩ = some (.bool kem) := fun x => x.cell h3.h6
  have ca : ∀ x : Later w3, x.w.cell? ⟨cb, a, none⟩ = some (.bool pa) := fun x => x.cell (by rw [← Epa.out]; exact h3.cc a xa)
  have Hw : Hid (∀ x : Later w3, Calls Try.prog 102 #[.pointer (some ⟨hb, 0, none⟩), .agg #[.int .i64 k, .string s, .int .u64 n, .int .i64 a, .int .i64 b, .int .i64 c]] x.w fun e w'' => e = .returned (.bool wv) ∧ ∃ y : Later w3, w'' = y.w) := hid fun x => by rw [← Ewv.out]; exact Calls.calm (wrap_m k s n a b c (h3.later x.below) (by omega) ha (by omega) hb1)
  clear h3 hbx3 Hbx H2 ha hb1
  cases wv
  · cases bx
    · refine wp_region_calm (by kernel_rfl) (by kernel_rfl) ?_
      repeat (go_big_quiet_step ((go_at_call 102; exact Hw.out _)))
      refine wpQuiet_nil ?_
      intro w4 hw4
      obtain ⟨⟨w4, hb4⟩, rfl⟩ := hw4
      clear d0 d1 d2 d3 d4 d5 k1 k6 ca
      go_wp2_with fail
      go_ret
      exact ⟨by simp, by rw [hB]; exact hbw.trans (hb3.mono hS |>.trans (hb4.mono (Nat.le_trans hS hS3)))⟩
    · cases kem
      · refine wp_region_calm (by kernel_rfl) (by kernel_rfl) ?_
        repeat (go_big_quiet_step ((go_at_call 102; exact Hw.out _)))
        refine wpQuiet_nil ?_
        intro w4 hw4
        obtain ⟨⟨w4, hb4⟩, rfl⟩ := hw4
        clear d0 d1 d2 d3 d4 d5 k1 k6 ca
        go_wp2_with fail
        go_ret
        exact ⟨by simp, by rw [hB]; exact hbw.trans (hb3.mono hS |>.trans (hb4.mono (Nat.le_trans hS hS3)))⟩
      · refine wp_region_calm (by kernel_rfl) (by kernel_rfl) ?_
        repeat (go_big_quiet_step ((go_at_call 102; exact Hw.out _)))
        refine wpQuiet_nil ?_
        intro w4 hw4
        obtain ⟨⟨w4, hb4⟩, rfl⟩ := hw4
        clear d0 d1 d2 d3 d4 d5 k1 k6 ca
        go_wp2_with fail
        go_ret
        exact ⟨by simp, by rw [hB]; exact hbw.trans (hb3.mono hS |>.trans (hb4.mono (Nat.le_trans hS hS3)))⟩
  · refine wp_region_calm (by kernel_rfl) (by kernel_rfl) ?_
    repeat (go_big_quiet_step ((go_at_call 102; exact Hw.out _)))
    refine wpQuiet_nil ?_
    intro w4 hw4
    obtain ⟨⟨w4, hb4⟩, rfl⟩ := hw4
    clear d0 d1 d2 d3 d4 d5 k1 k6 ca
    go_wp2_with fail
    go_ret
    exact ⟨by simp, by rw [hB]; exact hbw.trans (hb3.mono hS |>.trans (hb4.mono (Nat.le_trans hS hS3)))⟩

end Go.Proofs.Ytpcfmafokkffgaa
namespace Go.Proofs.Ytpcfmafokkffgaa
open Go.RowKit

structure MdOk (L : List T) (N : Nat) (es : Array MapEntry) (cs : List Bool) : Prop where
  good : Good L
  small : L.length ≤ 1048576
  hN : N = L.length + 1
  len : cs.length = L.length + 1
  box : BoxOk es L

theorem MdOk.lrn {L : List T} {N : Nat} {es : Array MapEntry} {cs : List Bool} (h : MdOk L N es cs) (x : Int) : MdOk L N es (lrn cs x) := ⟨h.good, h.small, h.hN, by rw [lrn_length]; exact h.len, h.box⟩
theorem bools_set (cs : List Bool) (x : Nat) : (bools cs).toArray.setIfInBounds x (.bool true) = (bools (lrn cs (x : Int))).toArray := by
  simp [bools, lrn, List.map_set]

section
variable {W w : World} {hb lb cb pb kb mb N ck : Nat} {L : List T} {dh kem : Bool} {es : Array MapEntry} {cs : List Bool} {Rs : List Res} {o : Obj} {A : Res}

theorem Hd.mindOk (h : Hd W w (Mind hb lb cb pb kb mb N L dh kem es ck cs Rs)) (ok : MdOk L N es cs) : MindAt w hb lb cb pb kb mb N L dh kem cs := h.mind ok.good ok.small ok.hN ok.len ok.box

theorem Hd.mbox (h : Hd W w (Mind hb lb cb pb kb mb N L dh kem es ck cs Rs)) (o : Obj) (k : Nat) (hk : w.heap.size = k) : Hd W (w.alloc o) (Mind hb lb cb pb kb mb N L dh kem es ck cs (Blk k o :: Rs)) := by
  subst hk
  refine Hd.perm ?_ (h.box o)
  exact (List.perm_middle (a := Blk w.heap.size o) (l₁ := [_, _, _, _, _, _]) (l₂ := Rs)).symm
theorem Hd.mun (h : Hd W w (Mind hb lb cb pb kb mb N L dh kem es ck cs (A :: Rs))) : Hd W w (Mind hb lb cb pb kb mb N L dh kem es ck cs Rs) := by
  refine (Hd.perm ?_ h).drop (A := A)
  exact (List.perm_middle (a := A) (l₁ := [_, _, _, _, _, _]) (l₂ := Rs))

set_option maxRecDepth 100000 in
set_option maxHeartbeats 2000000 in
theorem learn_m (x : Int) (hx0 : 0 ≤ x) (hx : x ≤ L.length) (ok : MdOk L N es cs) (hd : Hd W w (Mind hb lb cb pb kb mb N L dh kem es ck cs Rs)) :
    Calls Try.prog 106 #[.pointer (some ⟨hb, 0, none⟩), .int .i64 x] w fun e w' => e = .returned (.bool (!on cs x)) ∧ Hd W w' (Mind hb lb cb pb kb mb N L dh kem es ck (lrn cs x) Rs) := by
  obtain ⟨x, rfl⟩ : ∃ i : Nat, x = i := ⟨x.toNat, by omega⟩
  have h := hd.mindOk ok
  have hN := ok.hN
  have zx : (0 : Int) ≤ (x : Int) := by omega
  have yx : (x : Int) < (N : Int) := by omega
  have k1 := h.h1
  have cx := h.cc x (by omega)
  have fx := frozen_of_heap (Hd.kth 0 hd rfl) x
  have lx := h.lts.2.2.1
  obtain ⟨p, hq⟩ : ∃ zz, on cs (x : Int) = zz := ⟨_, rfl⟩
  rw [hq] at cx ⊢
  have Ep := hid hq
  have H := hid hd
  clear hq h hN hx0 hx hd ok
  go_enter Try.func106, Try.ntmps106
  go_wp2_with fail
  go_ret
  refine ⟨rfl, ?_⟩
  have := H.out.set x (.bool true)
  rw [bools_set] at this
  exact this

set_option maxRecDepth 100000 in
set_option maxHeartbeats 4000000 in
theorem apart_pair (s : ByteArray) (n a b c : Int) (ha0 : 0 ≤ a) (ha : a ≤ L.length) (hb0 : 0 ≤ b) (hb' : b ≤ L.length) (ok : MdOk L N es cs) (hd : Hd W w (Mind hb lb cb pb kb mb N L dh kem es ck cs Rs)) :
    Calls Try.prog 82 #[.pointer (some ⟨hb, 0, none⟩), .agg #[.int .i64 11, .string s, .int .u64 n, .int .i64 a, .int .i64 b, .int .i64 c]] w fun e w' => e = .returned (.bool (!on cs a || !on (lrn cs a) b)) ∧ Hd W w' (Mind hb lb cb pb kb mb N L dh kem es ck (lrn (lrn cs a) b) Rs) := by
  have Ok := hid ok
  have Ok2 := hid (ok.lrn a)
  have H := hid hd
  have Ha := hid ha
  have Hb := hid hb'
  have Ha0 := hid ha0
  have Hb0 := hid hb0
  clear ha hb' ha0 hb0
  obtain ⟨p, hq⟩ : ∃ zz, on cs a = zz := ⟨_, rfl⟩
  have Ep := hid hq
  rw [hq]
  clear hq
  obtain ⟨q, hq⟩ : ∃ zz, on (lrn cs a) b = zz := ⟨_, rfl⟩
  have Eq := hid hq
  rw [hq]
  clear hq ok hd
  go_enter Try.func82, Try.ntmps82
  go_wp2_with fail
  refine (learn_m a Ha0.out Ha.out Ok.out (H.out.mbox _ _ rfl)).mono ?_
  rw [Ep.out]
  rintro e w2 ⟨rfl, h2⟩
  have H2 := hid h2
  clear h2
  have hk := Hd.kth 6 H2.out rfl
  have d4 := (cell_of_heap hk 4).trans (show _ = some (.int .i64 b) from rfl)
  clear hk
  go_wp2_with fail
  refine (learn_m b Hb0.out Hb.out Ok2.out H2.out).mono ?_
  rw [Eq.out]
  rintro e w3 ⟨rfl, h3⟩
  have H3 := hid h3
  clear h3 d4 H2
  cases p
  · go_wp2_with fail
    go_ret
    exact ⟨rfl, H3.out.mun⟩
  · go_wp2_with fail
    go_ret
    exact ⟨by simp, H3.out.mun⟩

set_option maxRecDepth 100000 in
set_option maxHeartbeats 4000000 in
theorem apart_seal (s : ByteArray) (n a b c : Int) (ha0 : 0 ≤ a) (ha : a ≤ L.length) (hc0 : 0 ≤ c) (hc : c ≤ L.length) (ok : MdOk L N es cs) (hd : Hd W w (Mind hb lb cb pb kb mb N L dh kem es ck cs Rs)) :
    Calls Try.prog 82 #[.pointer (some ⟨hb, 0, none⟩), .agg #[.int .i64 10, .string s, .int .u64 n, .int .i64 a, .int .i64 b, .int .i64 c]] w fun e w' => e = .returned (.bool (if on cs a = true then !on cs c else false)) ∧ Hd W w' (Mind hb lb cb pb kb mb N L dh kem es ck (if on cs a = true then lrn cs c else cs) Rs) := by
  obtain ⟨a, rfl⟩ : ∃ i : Nat, a = i := ⟨a.toNat, by omega⟩
  have Ok := hid ok
  have H := hid hd
  have Hc := hid hc
  have Hc0 := hid hc0
  have hN := ok.hN
  have xa : a < N := by omega
  have za : (0 : Int) ≤ (a : Int) := by omega
  have ya : (a : Int) < (N : Int) := by omega
  clear ha hc ha0 hc0 hN
  obtain ⟨p, hq⟩ : ∃ zz, on cs (a : Int) = zz := ⟨_, rfl⟩
  have Ep := hid hq
  rw [hq]
  clear hq
  obtain ⟨q, hq⟩ : ∃ zz, on cs c = zz := ⟨_, rfl⟩
  have Eq := hid hq
  rw [hq]
  clear hq ok hd
  go_enter Try.func82, Try.ntmps82
  go_wp2_with fail
  obtain ⟨w2, hw2⟩ : ∃ w2, w2 = w.alloc (.cells #[.int .i64 10, .string s, .int .u64 n, .int .i64 a, .int .i64 b, .int .i64 c] 47 (0, 0)) := ⟨_, rfl⟩
  have h2 : Hd W w2 (Mind hb lb cb pb kb mb N L dh kem es ck cs (Blk w.heap.size (.cells #[.int .i64 10, .string s, .int .u64 n, .int .i64 a, .int .i64 b, .int .i64 c] 47 (0, 0)) :: Rs)) := by rw [hw2]; exact H.out.mbox _ _ rfl
  rw [← hw2]
  clear hw2
  generalize hB : w.heap.size = B at *
  have H2 := hid h2
  have hm := h2.mindOk Ok.out
  have hk := Hd.kth 6 h2 rfl
  have d0 : ∀ x : Later w2, x.w.cell? ⟨B, 0, none⟩ = some (.int .i64 10) := fun x => x.cell (by rw [cell_of_heap hk]; rfl)
  have d3 : ∀ x : Later w2, x.w.cell? ⟨B, 3, none⟩ = some (.int .i64 a) := fun x => x.cell (by rw [cell_of_heap hk]; rfl)
  have k1 : ∀ x : Later w2, x.w.cell? ⟨hb, 1, none⟩ = some (.slice (some ⟨cb, 0, none⟩) N N) := fun x => x.cell hm.h1
  have ca : ∀ x : Later w2, x.w.cell? ⟨cb, a, none⟩ = some (.bool p) := fun x => x.cell (by rw [← Ep.out]; exact hm.cc a xa)
  clear hm hk h2
  cases p
  · refine wp_region_calm (by kernel_rfl) (by kernel_rfl) ?_
    repeat (go_big_quiet_step (fail))
    refine wpQuiet_nil ?_
    intro w3 hw3
    obtain ⟨⟨w3, hb3⟩, rfl⟩ := hw3
    have H3 := hid (H2.out.still hb3)
    clear d0 d3 k1 ca H2
    go_wp2_with fail
    go_ret
    exact ⟨by simp, by simpa using H3.out.mun⟩
  · refine wp_region_calm (by kernel_rfl) (by kernel_rfl) ?_
    repeat (go_big_quiet_step (fail))
    refine wpQuiet_nil ?_
    intro w3 hw3
    obtain ⟨⟨w3, hb3⟩, rfl⟩ := hw3
    have H3 := hid (H2.out.still hb3)
    clear d0 d3 k1 ca H2
    have hk := Hd.kth 6 H3.out rfl
    have d5 := (cell_of_heap hk 5).trans (show _ = some (.int .i64 c) from rfl)
    clear hk
    go_wp2_with fail
    refine (learn_m c Hc0.out Hc.out Ok.out H3.out).mono ?_
    rw [Eq.out]
    rintro e w4 ⟨rfl, h4⟩
    have H4 := hid h4
    clear h4 d5 H3
    go_wp2_with fail
    go_ret
    exact ⟨by simp, by simpa using H4.out.mun⟩

set_option maxRecDepth 100000 in
set_option maxHeartbeats 4000000 in
theorem apart_none (k : Int) (s : ByteArray) (n a b c : Int) (h1 : k ≠ 11) (h2 : k ≠ 10) (hd : Hd W w Rs) :
    Calls Try.prog 82 #[.pointer (some ⟨hb, 0, none⟩), .agg #[.int .i64 k, .string s, .int .u64 n, .int .i64 a, .int .i64 b, .int .i64 c]] w fun e w' => e = .returned (.bool false) ∧ Hd W w' Rs := by
  have H := hid hd
  have e1 : (k == 11) = false := by simpa using h1
  have e2 : (k == 10) = false := by simpa using h2
  clear h1 h2 hd
  go_enter Try.func82, Try.ntmps82
  go_wp2_with fail
  obtain ⟨w2, hw2⟩ : ∃ w2, w2 = w.alloc (.cells #[.int .i64 k, .string s, .int .u64 n, .int .i64 a, .int .i64 b, .int .i64 c] 47 (0, 0)) := ⟨_, rfl⟩
  have hk : w2.heap[w.heap.size]? = some (.cells #[.int .i64 k, .string s, .int .u64 n, .int .i64 a, .int .i64 b, .int .i64 c] 47 (0, 0)) := by rw [hw2]; exact heap_at rfl
  have H2 : Hid (Hd W w2 Rs) := hid (by rw [hw2]; exact H.out.al)
  rw [← hw2]
  clear hw2
  generalize w.heap.size = B at *
  have d0 : ∀ x : Later w2, x.w.cell? ⟨B, 0, none⟩ = some (.int .i64 k) := fun x => x.cell (by rw [cell_of_heap hk]; rfl)
  clear hk
  refine wp_region_calm (by kernel_rfl) (by kernel_rfl) ?_
  repeat (go_big_quiet_step (fail))
  refine wpQuiet_nil ?_
  intro w3 hw3
  obtain ⟨⟨w3, hb3⟩, rfl⟩ := hw3
  have H3 := hid (H2.out.still hb3)
  clear d0 H2
  go_wp2_with fail
  go_ret
  exact ⟨rfl, H3.out⟩

/-- What can be made is taken apart. -/
theorem apart_m (k : Int) (s : ByteArray) (n a b c : Int) {x : Int} (hat : At L x ⟨k, s, n, a, b, c⟩) (ok : MdOk L N es cs) (hd : Hd W w (Mind hb lb cb pb kb mb N L dh kem es ck cs Rs)) :
    Calls Try.prog 82 #[.pointer (some ⟨hb, 0, none⟩), .agg #[.int .i64 k, .string s, .int .u64 n, .int .i64 a, .int .i64 b, .int .i64 c]] w fun e w' => e = .returned (.bool (apt cs ⟨k, s, n, a, b, c⟩).1) ∧ Hd W w' (Mind hb lb cb pb kb mb N L dh kem es ck (apt cs ⟨k, s, n, a, b, c⟩).2 Rs) := by
  by_cases h11 : k = 11
  · subst h11
    have pa := parts_in ok.good hat (p := a) (by simp [T.parts, many])
    have pb := parts_in ok.good hat (p := b) (by simp [T.parts, many])
    exact apart_pair s n a b c (by omega) pa.2 (by omega) pb.2 ok hd
  · by_cases h10 : k = 10
    · subst h10
      have pa := parts_in ok.good hat (p := a) (by simp [T.parts, many])
      have pc := parts_in ok.good hat (p := c) (by simp [T.parts, many])
      have := apart_seal s n a b c (by omega) pa.2 (by omega) pc.2 ok hd
      by_cases hp : on cs a = true
      · have e : apt cs ⟨10, s, n, a, b, c⟩ = (!on cs c, lrn cs c) := by simp [apt, hp]
        rw [e]
        simpa [hp] using this
      · have e : apt cs ⟨10, s, n, a, b, c⟩ = (false, cs) := by simp [apt, hp]
        rw [e]
        simpa [hp] using this
    · have e : apt cs ⟨k, s, n, a, b, c⟩ = (false, cs) := by simp [apt, h11, h10]
      rw [e]
      exact apart_none k s n a b c h11 h10 hd
end
end Go.Proofs.Ytpcfmafokkffgaa
namespace Go.Proofs.Ytpcfmafokkffgaa
open Go.RowKit

def coreM : List (Option Nat × Op) := [
  (some 18, .move (.tmp 8)), (some 19, .makeSlice 22 (.tmp 18) (.tmp 18)), (some 20, .move (.tmp 8)), (some 21, .makeSlice 135 (.tmp 20) (.tmp 20)),
  (some 22, .move (.tmp 8)), (some 23, .makeSlice 33 (.tmp 22) (.tmp 22)), (some 24, .move (.tmp 8)), (some 25, .makeSlice 33 (.tmp 24) (.tmp 24)),
  (some 26, .makeMap 136 none), (some 27, .load 69 (.tmp 5)), (some 28, .build 138 #[(0, .tmp 19), (1, .tmp 21), (2, .tmp 23), (3, .tmp 25), (4, .tmp 26), (5, .tmp 27)]),
  (some 29, .box 138 (.tmp 28)), (some 9, .assign (.tmp 29))]
def needM : Nat → List Nat
  | 1 => [0] | 3 => [2] | 5 => [4] | 7 => [6] | 10 => [1, 3, 5, 7, 8, 9] | 11 => [10] | 12 => [11] | _ => []
def usesM : Nat → List Nat
  | 1 => [1] | 3 => [3] | 5 => [5] | 7 => [7] | 8 => [8] | 10 => [1, 3, 5, 7, 8] | 11 => [11, 1, 3, 5, 7, 8] | 12 => [11, 1, 3, 5, 7, 8] | _ => []
def valM (N : Nat) (dh kem : Bool) (g : Nat → Nat) : Nat → Value
  | 1 => .slice (some ⟨g 1, 0, none⟩) N N
  | 3 => .slice (some ⟨g 3, 0, none⟩) N N
  | 5 => .slice (some ⟨g 5, 0, none⟩) N N
  | 7 => .slice (some ⟨g 7, 0, none⟩) N N
  | 8 => .map (some (g 8))
  | 9 => .agg #[.bool dh, .bool kem]
  | 10 => .agg #[.slice (some ⟨g 1, 0, none⟩) N N, .slice (some ⟨g 3, 0, none⟩) N N, .slice (some ⟨g 5, 0, none⟩) N N, .slice (some ⟨g 7, 0, none⟩) N N, .map (some (g 8)), .bool dh, .bool kem]
  | 11 => .pointer (some ⟨g 11, 0, none⟩)
  | 12 => .pointer (some ⟨g 11, 0, none⟩)
  | _ => .int .i64 N
def resM (N : Nat) (dh kem : Bool) (g : Nat → Nat) : Nat → List Res
  | 1 => [Blk (g 1) (.cells (cellsOf (List.replicate N zeroT)).toArray 47 (0, 0))]
  | 3 => [Blk (g 3) (.cells (bools (List.replicate N false)).toArray 4 (0, 0))]
  | 5 => [Blk (g 5) (.cells (ints (List.replicate N 0)).toArray 3 (0, 0))]
  | 7 => [Blk (g 7) (.cells (ints (List.replicate N 0)).toArray 3 (0, 0))]
  | 8 => [Blk (g 8) (.map #[] 0)]
  | 11 => [Blk (g 11) (mindHead (g 1) (g 3) (g 5) (g 7) (g 8) N dh kem)]
  | _ => []

theorem valM_of {N : Nat} {dh kem : Bool} (i : Nat) (g g' : Nat → Nat) (h : ∀ k ∈ usesM i, g k = g' k) : valM N dh kem g i = valM N dh kem g' i ∧ resM N dh kem g i = resM N dh kem g' i := by
  match i with
  | 0 | 2 | 4 | 6 | 9 => exact ⟨rfl, rfl⟩
  | 1 => simp [usesM] at h; simp [valM, resM, h]
  | 3 => simp [usesM] at h; simp [valM, resM, h]
  | 5 => simp [usesM] at h; simp [valM, resM, h]
  | 7 => simp [usesM] at h; simp [valM, resM, h]
  | 8 => simp [usesM] at h; simp [valM, resM, h]
  | 10 => simp [usesM] at h; simp [valM, resM, h]
  | 11 => simp [usesM] at h; simp [valM, resM, h]
  | 12 => simp [usesM] at h; simp [valM, resM, h]
  | n + 13 => exact ⟨rfl, rfl⟩

theorem made_one (v : Value) (N : Nat) : madeCells #[v] (N * 1) = (List.replicate N v).toArray := by
  apply Array.ext
  · simp [madeCells]
  · intro i h1 h2
    simp [madeCells, Nat.mod_one]
theorem made_six (N : Nat) : madeCells (T.cells zeroT).toArray (N * 6) = (cellsOf (List.replicate N zeroT)).toArray := by
  have hz : ∀ (N i : Nat), i < N * 6 → (cellsOf (List.replicate N zeroT))[i]? = (T.cells zeroT)[i % 6]? := by
    intro N
    induction N with
    | zero => intro i h; omega
    | succ N ih =>
      intro i h
      simp only [List.replicate_succ, cellsOf, List.flatMap_cons]
      by_cases hi : i < 6
      · rw [List.getElem?_append_left (by simpa [T.cells] using hi), Nat.mod_eq_of_lt hi]
      · rw [List.getElem?_append_right (by simp [T.cells]; omega)]
        have := ih (i - 6) (by omega)
        rw [cellsOf] at this
        have e : (i - 6) % 6 = i % 6 := by omega
        rw [e] at this
        simpa [T.cells] using this
  apply Array.ext
  · simp [madeCells, cellsOf_length]
  · intro i h1 h2
    have hi : i < N * 6 := by simpa [madeCells] using h1
    have h3 := hz N i hi
    have h6 : i % 6 < 6 := Nat.mod_lt _ (by decide)
    have h7 : (T.cells zeroT)[i % 6]? = some ((T.cells zeroT)[i % 6]'(by simpa [T.cells] using h6)) := List.getElem?_eq_getElem _
    rw [h7, List.getElem?_eq_getElem (by rw [cellsOf_length]; simp; omega), Option.some.injEq] at h3
    simp only [madeCells, Array.getElem_map, Array.getElem_range, List.getElem_toArray]
    rw [h3]
    exact getElem!_pos (T.cells zeroT).toArray (i % 6) (by simpa [T.cells] using h6)

section
variable {ρ : Operand → Value} {o : Oper} {w : World}
theorem exec_makeSlice {t : TypeId} {x : Operand} {n : Int} {v : Value} {w' : World} (ho : o.op = .makeSlice t x x) (hx : ρ x = .int .i64 n) (hr : (Instr.makeSlice t (.int .i64 n) (.int .i64 n)).run Try.prog w = .ok v w') : (execOp ρ o).run Try.prog w = .ok (.value v) w' := by
  simp [execOp, ho, hx, hr, go_sem]
theorem exec_makeMap {t : TypeId} (ho : o.op = .makeMap t none) : (execOp ρ o).run Try.prog w = .ok (.value (.map (some w.heap.size))) (w.alloc (.map #[] 0)) := by
  simp [execOp, ho, go_sem, run_makeMap]
theorem exec_load_f {x : Operand} {B : Nat} {dh kem : Bool} (ho : o.op = .load 69 x) (hx : ρ x = .pointer (some ⟨B, 0, none⟩)) (h0 : w.cell? ⟨B, 0, none⟩ = some (.bool dh)) (h1 : w.cell? ⟨B, 1, none⟩ = some (.bool kem)) :
    (execOp ρ o).run Try.prog w = .ok (.value (.agg #[.bool dh, .bool kem])) w := by
  simp [execOp, ho, hx, h0, h1, go_sem]
theorem exec_build_m {x0 x1 x2 x3 x4 x5 : Operand} {l c p k : Nat} {mb N : Nat} {dh kem : Bool} (ho : o.op = .build 138 #[(0, x0), (1, x1), (2, x2), (3, x3), (4, x4), (5, x5)]) (h0 : ρ x0 = .slice (some ⟨l, 0, none⟩) N N) (h1 : ρ x1 = .slice (some ⟨c, 0, none⟩) N N)
    (h2 : ρ x2 = .slice (some ⟨p, 0, none⟩) N N) (h3 : ρ x3 = .slice (some ⟨k, 0, none⟩) N N) (h4 : ρ x4 = .map (some mb)) (h5 : ρ x5 = .agg #[.bool dh, .bool kem]) :
    (execOp ρ o).run Try.prog w = .ok (.value (.agg #[.slice (some ⟨l, 0, none⟩) N N, .slice (some ⟨c, 0, none⟩) N N, .slice (some ⟨p, 0, none⟩) N N, .slice (some ⟨k, 0, none⟩) N N, .map (some mb), .bool dh, .bool kem])) w := by
  simp [execOp, ho, h0, h1, h2, h3, h4, h5, go_sem]
theorem exec_box_m {x : Operand} {l c p k : Nat} {mb N : Nat} {dh kem : Bool} (ho : o.op = .box 138 x) (hx : ρ x = .agg #[.slice (some ⟨l, 0, none⟩) N N, .slice (some ⟨c, 0, none⟩) N N, .slice (some ⟨p, 0, none⟩) N N, .slice (some ⟨k, 0, none⟩) N N, .map (some mb), .bool dh, .bool kem]) :
    (execOp ρ o).run Try.prog w = .ok (.value (.pointer (some ⟨w.heap.size, 0, none⟩))) (w.alloc (mindHead l c p k mb N dh kem)) := by
  simp [execOp, ho, hx, go_sem, mindHead]
theorem exec_assign {x : Operand} (ho : o.op = .assign x) (P : Program) : (execOp ρ o).run P w = .ok (.value (ρ x)) w := by
  simp [execOp, ho, go_sem]
end

theorem make_T (N : Nat) (hN : N ≤ 1048577) (w : World) : (Instr.makeSlice 22 (.int .i64 (N : Int)) (.int .i64 (N : Int))).run Try.prog w = .ok (.slice (some ⟨w.heap.size, 0, none⟩) N N) (w.alloc (.cells (cellsOf (List.replicate N zeroT)).toArray 47 (0, 0))) := by
  obtain ⟨i, hi, hz, hs, hb⟩ := info_parts (show (Try.prog.info? 47).map (fun i => (i.zero, i.size, i.bytes)) = some (some (T.val zeroT), 6, 56) by kernel_rfl)
  have := run_make (P := Try.prog) w 22 47 i _ (by kernel_rfl) hi hz .i64 .i64 N N (by omega) (by omega) (by rw [hb]; omega) (by omega)
  rw [hs] at this
  simpa [made_six, T.val, Value.cells, T.cells, ← made_six] using this
theorem make_B (N : Nat) (hN : N ≤ 1048577) (w : World) : (Instr.makeSlice 135 (.int .i64 (N : Int)) (.int .i64 (N : Int))).run Try.prog w = .ok (.slice (some ⟨w.heap.size, 0, none⟩) N N) (w.alloc (.cells (bools (List.replicate N false)).toArray 4 (0, 0))) := by
  obtain ⟨i, hi, hz, hs, hb⟩ := info_parts (show (Try.prog.info? 4).map (fun i => (i.zero, i.size, i.bytes)) = some (some (.bool false), 1, 1) by kernel_rfl)
  have := run_make (P := Try.prog) w 135 4 i _ (by kernel_rfl) hi hz .i64 .i64 N N (by omega) (by omega) (by rw [hb]; omega) (by omega)
  rw [hs, show (Value.bool false).cells = #[.bool false] from rfl, Int.toNat_natCast, made_one] at this
  simpa [bools] using this
theorem make_I (N : Nat) (hN : N ≤ 1048577) (w : World) : (Instr.makeSlice 33 (.int .i64 (N : Int)) (.int .i64 (N : Int))).run Try.prog w = .ok (.slice (some ⟨w.heap.size, 0, none⟩) N N) (w.alloc (.cells (ints (List.replicate N 0)).toArray 3 (0, 0))) := by
  obtain ⟨i, hi, hz, hs, hb⟩ := info_parts (show (Try.prog.info? 3).map (fun i => (i.zero, i.size, i.bytes)) = some (some (.int .i64 0), 1, 8) by kernel_rfl)
  have := run_make (P := Try.prog) w 33 3 i _ (by kernel_rfl) hi hz .i64 .i64 N N (by omega) (by omega) (by rw [hb]; omega) (by omega)
  rw [hs, show (Value.int .i64 0).cells = #[.int .i64 0] from rfl, Int.toNat_natCast, made_one] at this
  simpa [ints] using this

theorem hd_alloc {W w : World} {o : Obj} {k : Nat} (hk : k = w.heap.size) : ∀ Ss, Hd W w Ss → Hd W (w.alloc o) ([Blk k o] ++ Ss) := fun Ss h => by subst hk; exact h.box o

set_option maxHeartbeats 2000000 in
/-- The mind's rows are made. -/
theorem begin_made {ops : Array Oper} {Q : Exit → Act → World → Prop} {id : Nat} {a0 : Act} {w0 W : World} {Rs : List Res} {N B : Nat} {dh kem : Bool} (hcore : ops.toList.map (fun o => (o.dst, o.op)) = coreM) (hc : checkOps ops needM usesM = true) (hsz : 30 ≤ a0.tmps.size) (hN : N ≤ 1048577)
    (e8 : a0.eval (.tmp 8) = .int .i64 N) (e5 : a0.eval (.tmp 5) = .pointer (some ⟨B, 0, none⟩)) (c0 : w0.cell? ⟨B, 0, none⟩ = some (.bool dh)) (c1 : w0.cell? ⟨B, 1, none⟩ = some (.bool kem)) (h0 : Hd W w0 Rs)
    (done : ∀ (f : Nat → Value) (w : World) (g : Nat → Nat), Below w0.heap.size w0 w → f 9 = .pointer (some ⟨g 11, 0, none⟩) →
      Hd W w (Blk (g 1) (.cells (cellsOf (List.replicate N zeroT)).toArray 47 (0, 0)) :: Blk (g 3) (.cells (bools (List.replicate N false)).toArray 4 (0, 0)) :: Blk (g 5) (.cells (ints (List.replicate N 0)).toArray 3 (0, 0)) :: Blk (g 7) (.cells (ints (List.replicate N 0)).toArray 3 (0, 0)) ::
        Blk (g 8) (.map #[] 0) :: Blk (g 11) (mindHead (g 1) (g 3) (g 5) (g 7) (g 8) N dh kem) :: Rs) →
      Q .normal { tmps := (patchG (fun i => i == 9 || (decide (18 ≤ i) && decide (i ≤ 29))) f 0 a0.tmps.toList).toArray, defers := a0.defers } w) : (Code.region id ops true).wp Try.prog Q a0 w0 := by
  have hsize : ops.size = 13 := by
    have := congrArg List.length hcore
    simpa [coreM] using this
  have hdst := dst_core hcore
  have hdr : ∀ i d, dstOf ops i = some d → d = 9 ∨ (18 ≤ d ∧ d ≤ 29) := by
    intro i d h
    rw [hdst] at h
    match i with
    | 0 | 1 | 2 | 3 | 4 | 5 | 6 | 7 | 8 | 9 | 10 | 11 | 12 => simp [coreM] at h; omega
    | n + 13 => simp [coreM] at h
  have out8 : ∀ i, dstOf ops i ≠ some 8 := fun i h => by have := hdr i 8 h; omega
  have out5 : ∀ i, dstOf ops i ≠ some 5 := fun i h => by have := hdr i 5 h; omega
  refine wp_region_made (W := W) (Rs := Rs) needM usesM (valM N dh kem) (resM N dh kem) (by kernel_rfl) hc (fun i d h => by have := hdr i d h; omega) valM_of h0 ?_ ?_
  · intro i o ho a w g hin hrest hb K hK
    have hco := core_at hcore ho
    have E8 : a.eval (.tmp 8) = .int .i64 N := (hrest 8 out8).trans e8
    have E5 : a.eval (.tmp 5) = .pointer (some ⟨B, 0, none⟩) := (hrest 5 out5).trans e5
    have pure_ : ∀ v, v = valM N dh kem (upd g i (g i)) i → resM N dh kem (upd g i (g i)) i = [] → K (a.put o.dst v) w := fun v hv hr => hK (g i) v w (.inl hv) (Below.refl _ _) fun Ss h => by rw [hr]; exact h
    have same : ∀ j, upd g i (g i) j = g j := fun j => by unfold upd; split; (rename_i e; rw [e]); rfl
    have al : ∀ {ob : Obj}, Below w.heap.size w (w.alloc ob) := (Below.refl _ _).alloc (Nat.le_refl _) _
    have hlt : i < 13 := by rw [← hsize]; exact (Array.getElem?_eq_some_iff.1 ho).1
    match i, hlt with
    | 0, _ =>
      simp only [coreM, List.getElem?_cons_zero, Option.some.injEq, Prod.mk.injEq] at hco
      refine wp_of_run (exec_move hco.2.symm _ _) (pure_ _ E8 rfl)
    | 2, _ =>
      simp only [coreM, List.getElem?_cons_succ, List.getElem?_cons_zero, Option.some.injEq, Prod.mk.injEq] at hco
      refine wp_of_run (exec_move hco.2.symm _ _) (pure_ _ E8 rfl)
    | 4, _ =>
      simp only [coreM, List.getElem?_cons_succ, List.getElem?_cons_zero, Option.some.injEq, Prod.mk.injEq] at hco
      refine wp_of_run (exec_move hco.2.symm _ _) (pure_ _ E8 rfl)
    | 6, _ =>
      simp only [coreM, List.getElem?_cons_succ, List.getElem?_cons_zero, Option.some.injEq, Prod.mk.injEq] at hco
      refine wp_of_run (exec_move hco.2.symm _ _) (pure_ _ E8 rfl)
    | 1, _ =>
      simp only [coreM, List.getElem?_cons_succ, List.getElem?_cons_zero, Option.some.injEq, Prod.mk.injEq] at hco
      refine wp_of_run (exec_makeSlice hco.2.symm (hin 0 (by decide) 18 (by rw [hdst]; rfl)) (make_T N hN w)) ?_
      exact hK w.heap.size _ _ (.inl rfl) al (hd_alloc rfl)
    | 3, _ =>
      simp only [coreM, List.getElem?_cons_succ, List.getElem?_cons_zero, Option.some.injEq, Prod.mk.injEq] at hco
      refine wp_of_run (exec_makeSlice hco.2.symm (hin 2 (by decide) 20 (by rw [hdst]; rfl)) (make_B N hN w)) ?_
      exact hK w.heap.size _ _ (.inl rfl) al (hd_alloc rfl)
    | 5, _ =>
      simp only [coreM, List.getElem?_cons_succ, List.getElem?_cons_zero, Option.some.injEq, Prod.mk.injEq] at hco
      refine wp_of_run (exec_makeSlice hco.2.symm (hin 4 (by decide) 22 (by rw [hdst]; rfl)) (make_I N hN w)) ?_
      exact hK w.heap.size _ _ (.inl rfl) al (hd_alloc rfl)
    | 7, _ =>
      simp only [coreM, List.getElem?_cons_succ, List.getElem?_cons_zero, Option.some.injEq, Prod.mk.injEq] at hco
      refine wp_of_run (exec_makeSlice hco.2.symm (hin 6 (by decide) 24 (by rw [hdst]; rfl)) (make_I N hN w)) ?_
      exact hK w.heap.size _ _ (.inl rfl) al (hd_alloc rfl)
    | 8, _ =>
      simp only [coreM, List.getElem?_cons_succ, List.getElem?_cons_zero, Option.some.injEq, Prod.mk.injEq] at hco
      refine wp_of_run (exec_makeMap hco.2.symm) ?_
      exact hK w.heap.size _ _ (.inl rfl) al (hd_alloc rfl)
    | 9, _ =>
      simp only [coreM, List.getElem?_cons_succ, List.getElem?_cons_zero, Option.some.injEq, Prod.mk.injEq] at hco
      refine wp_of_run (exec_load_f hco.2.symm E5 ((hb.cell (p := ⟨B, 0, none⟩) (World.block_lt_of_cell? _ _ c0)).trans c0) ((hb.cell (p := ⟨B, 1, none⟩) (World.block_lt_of_cell? _ _ c1)).trans c1)) (pure_ _ rfl rfl)
    | 10, _ =>
      simp only [coreM, List.getElem?_cons_succ, List.getElem?_cons_zero, Option.some.injEq, Prod.mk.injEq] at hco
      refine wp_of_run (exec_build_m hco.2.symm (hin 1 (by decide) 19 (by rw [hdst]; rfl)) (hin 3 (by decide) 21 (by rw [hdst]; rfl)) (hin 5 (by decide) 23 (by rw [hdst]; rfl)) (hin 7 (by decide) 25 (by rw [hdst]; rfl)) (hin 8 (by decide) 26 (by rw [hdst]; rfl)) (hin 9 (by decide) 27 (by rw [hdst]; rfl))) (pure_ _ ?_ rfl)
      simp [valM, same]
    | 11, _ =>
      simp only [coreM, List.getElem?_cons_succ, List.getElem?_cons_zero, Option.some.injEq, Prod.mk.injEq] at hco
      refine wp_of_run (exec_box_m hco.2.symm (hin 10 (by decide) 28 (by rw [hdst]; rfl))) ?_
      exact hK w.heap.size _ _ (.inl rfl) al (hd_alloc rfl)
    | 12, _ =>
      simp only [coreM, List.getElem?_cons_succ, List.getElem?_cons_zero, Option.some.injEq, Prod.mk.injEq] at hco
      refine wp_of_run (exec_assign hco.2.symm _) (pure_ _ ?_ rfl)
      rw [hin 11 (by decide) 29 (by rw [hdst]; rfl)]
      simp [valM, same]
  · intro a w g hs hd hr hv hb hh
    rw [act_litG (fun i => i == 9 || (decide (18 ≤ i) && decide (i ≤ 29))) hs hd fun t ht => hr t fun i h => ?_]
    · refine done (fun i => a.eval (.tmp i)) w g hb (hv 12 9 (by rw [hdst]; rfl)) ?_
      rw [hsize] at hh
      exact hh
    · have := hdr i t h
      simp at ht
      omega
end Go.Proofs.Ytpcfmafokkffgaa
namespace Go.Proofs.Ytpcfmafokkffgaa
open Go.RowKit

theorem cells_set6 (t : T) : ∀ (rows : List T) (q : Nat), q < rows.length →
    ((((((cellsOf rows).set (q * 6) (.int .i64 t.k)).set (q * 6 + 1) (.string t.s)).set (q * 6 + 2) (.int .u64 t.n)).set (q * 6 + 3) (.int .i64 t.a)).set (q * 6 + 4) (.int .i64 t.b)).set (q * 6 + 5) (.int .i64 t.c) = cellsOf (rows.set q t)
  | [], q, h => by simp at h
  | u :: rows, 0, _ => by simp [cellsOf, T.cells]
  | u :: rows, q + 1, h => by
    have ih := cells_set6 t rows q (by simpa using h)
    have e : ∀ j, (q + 1) * 6 + j = (T.cells u).length + (q * 6 + j) := fun j => by simp [T.cells]; omega
    have e0 := e 0
    simp only [Nat.add_zero] at e0
    have key : ∀ (l : List Value) (i : Nat) (v : Value), (T.cells u ++ l).set ((T.cells u).length + i) v = T.cells u ++ l.set i v := fun l i v => by
      rw [List.set_append_right _ _ (by omega), Nat.add_sub_cancel_left]
    rw [e 1, e 2, e 3, e 4, e 5, e0]
    simp only [cellsOf, List.set_cons_succ, List.flatMap_cons] at ih ⊢
    rw [key, key, key, key, key, key, ih]
theorem row_set6 (t : T) (rows : List T) (q : Nat) (h : q < rows.length) :
    ((((((cellsOf rows).toArray.setIfInBounds (q * 6) (.int .i64 t.k)).setIfInBounds (q * 6 + 1) (.string t.s)).setIfInBounds (q * 6 + 2) (.int .u64 t.n)).setIfInBounds (q * 6 + 3) (.int .i64 t.a)).setIfInBounds (q * 6 + 4) (.int .i64 t.b)).setIfInBounds (q * 6 + 5) (.int .i64 t.c) = (cellsOf (rows.set q t)).toArray := by
  rw [← cells_set6 t rows q h]
  simp

/-- The row of terms when so many are there. -/
def rowsT (L : List T) (N q : Nat) : List T := (zeroT :: L.take (q - 1)) ++ List.replicate (N - q) zeroT
theorem rowsT_length {L : List T} {N q : Nat} (hN : N = L.length + 1) (h1 : 1 ≤ q) (h2 : q ≤ N) : (rowsT L N q).length = N := by
  simp [rowsT]; omega
theorem rowsT_start (L : List T) (N : Nat) (hN : 1 ≤ N) : List.replicate N zeroT = rowsT L N 1 := by
  obtain ⟨n, rfl⟩ : ∃ n, N = n + 1 := ⟨N - 1, by omega⟩
  simp [rowsT, List.replicate_succ]
theorem rowsT_end (L : List T) (N : Nat) (hN : N = L.length + 1) : rowsT L N N = zeroT :: L := by
  subst hN; simp [rowsT]
theorem take_succ_at {L : List T} {q : Nat} {t : T} (hat : At L (q : Int) t) : L.take q = L.take (q - 1) ++ [t] := by
  have h1 := hat.lo
  obtain ⟨n, rfl⟩ : ∃ n, q = n + 1 := ⟨q - 1, by omega⟩
  have := hat.is
  have e : (((n + 1 : Nat) : Int) - 1).toNat = n := by omega
  rw [e] at this
  rw [List.take_add_one, this]
  simp
theorem rowsT_step {L : List T} {N q : Nat} {t : T} (hN : N = L.length + 1) (h1 : 1 ≤ q) (h2 : q < N) (hat : At L (q : Int) t) : (rowsT L N q).set q t = rowsT L N (q + 1) := by
  unfold rowsT
  have hl : (zeroT :: L.take (q - 1)).length = q := by simp; omega
  rw [List.set_append_right _ _ (by omega), hl, Nat.sub_self, show N - q = (N - (q + 1)) + 1 by omega, List.replicate_succ, List.set_cons_zero, Nat.add_sub_cancel, take_succ_at hat]
  simp
theorem rowsT_at {L : List T} {N q : Nat} (h1 : 1 ≤ q) (h2 : q < N) (hN : N = L.length + 1) : (rowsT L N q)[q]? = some zeroT := by
  unfold rowsT
  rw [List.getElem?_append_right (by simp; omega)]
  have : (zeroT :: L.take (q - 1)).length = q := by simp; omega
  rw [this, Nat.sub_self, List.getElem?_replicate]
  simp; omega

theorem nm_snoc {M : List T} {t u : T} (hn : t ∉ M) : nm (M ++ [t]) u = if u = t then (M.length : Int) + 1 else nm M u := by
  have key : ∀ (M : List T), t ∉ M → find u (M ++ [t]) = if u = t then some M.length else find u M := by
    intro M
    induction M with
    | nil =>
      intro _
      simp only [List.nil_append, find]
      by_cases e : u = t
      · rw [if_pos e, if_pos e.symm]; rfl
      · rw [if_neg e, if_neg (fun h => e h.symm)]; rfl
    | cons x M ih =>
      intro hx
      have h1 : x ≠ t := fun e => hx (by simp [e])
      simp only [List.cons_append, find, ih (fun h => hx (by simp [h]))]
      by_cases e : u = t
      · rw [if_pos e, if_pos e, if_neg (fun h => h1 (h.trans e))]; simp
      · rw [if_neg e, if_neg e]
  unfold nm
  rw [key M hn]
  by_cases e : u = t
  · rw [if_pos e, if_pos e]
  · rw [if_neg e, if_neg e]

theorem may_pub3 {t : T} {len : Int} (h : t.may len) (hk : t.k = 3) : t = pubT t.a := by
  have := h.2.2.1
  rw [this]
  simp [T.only, hk, many, pubT]
theorem may_kpu5 {t : T} {len : Int} (h : t.may len) (hk : t.k = 5) : t = kpuT t.a := by
  have := h.2.2.1
  rw [this]
  simp [T.only, hk, many, kpuT]
theorem may_box6 {t : T} {len : Int} (h : t.may len) (hk : t.k = 6) : t = boxT t.a t.b := by
  have := h.2.2.1
  rw [this]
  simp [T.only, hk, many, boxT]

theorem ints_set (xs : List Int) (i : Nat) (v : Int) : (ints xs).toArray.setIfInBounds i (.int .i64 v) = (ints (xs.set i v)).toArray := by
  simp [ints, List.map_set]
theorem pubs_start (N : Nat) : pubs [] N = List.replicate N 0 := by
  apply List.ext_getElem?
  intro i
  simp only [pubs, List.getElem?_map, List.getElem?_replicate]
  by_cases h : i < N
  · simp [h, nm, find]
  · simp [h]
theorem kpus_start (N : Nat) : kpus [] N = List.replicate N 0 := by
  apply List.ext_getElem?
  intro i
  simp only [kpus, List.getElem?_map, List.getElem?_replicate]
  by_cases h : i < N
  · simp [h, nm, find]
  · simp [h]
theorem pubs_same {M : List T} {t : T} {N : Nat} (hn : t ∉ M) (hk : t.k ≠ 3) : pubs (M ++ [t]) N = pubs M N := by
  unfold pubs
  refine List.map_congr_left fun i _ => ?_
  rw [nm_snoc hn, if_neg (fun e => hk (by rw [← e]; rfl))]
theorem kpus_same {M : List T} {t : T} {N : Nat} (hn : t ∉ M) (hk : t.k ≠ 5) : kpus (M ++ [t]) N = kpus M N := by
  unfold kpus
  refine List.map_congr_left fun i _ => ?_
  rw [nm_snoc hn, if_neg (fun e => hk (by rw [← e]; rfl))]
theorem pubs_step {M : List T} {a N : Nat} (hn : pubT (a : Int) ∉ M) (_ha : a < N) : (pubs M N).set a ((M.length : Int) + 1) = pubs (M ++ [pubT (a : Int)]) N := by
  apply List.ext_getElem?
  intro i
  simp only [pubs, List.getElem?_set, List.length_map, List.length_range, List.getElem?_map]
  by_cases h : a = i
  · subst h
    rw [if_pos rfl]
    by_cases h : a < N
    · simp [h, nm_snoc hn]
    · simp [h]
  · rw [if_neg h]
    by_cases h2 : i < N
    · simp only [List.getElem?_range h2, Option.map_some]
      rw [nm_snoc hn, if_neg (fun e => h (by have := congrArg T.a e; simp only [pubT] at this; omega))]
    · simp [h2]
theorem kpus_step {M : List T} {a N : Nat} (hn : kpuT (a : Int) ∉ M) (_ha : a < N) : (kpus M N).set a ((M.length : Int) + 1) = kpus (M ++ [kpuT (a : Int)]) N := by
  apply List.ext_getElem?
  intro i
  simp only [kpus, List.getElem?_set, List.length_map, List.length_range, List.getElem?_map]
  by_cases h : a = i
  · subst h
    rw [if_pos rfl]
    by_cases h : a < N
    · simp [h, nm_snoc hn]
    · simp [h]
  · rw [if_neg h]
    by_cases h2 : i < N
    · simp only [List.getElem?_range h2, Option.map_some]
      rw [nm_snoc hn, if_neg (fun e => h (by have := congrArg T.a e; simp only [kpuT] at this; omega))]
    · simp [h2]

/-- The boxes so far. -/
structure BoxIn (es : Array MapEntry) (bs : List (Int × Int × Int)) (M : List T) : Prop where
  rows : es.toList.map (fun e => (e.key, e.val)) = boxVals bs
  is : ∀ a b, boxB bs a b = nm M (boxT a b)
  pos : ∀ p ∈ bs, 1 ≤ p.2.2

theorem BoxIn.ok {es : Array MapEntry} {bs : List (Int × Int × Int)} {M : List T} (h : BoxIn es bs M) : BoxOk es M := ⟨bs, h.rows, h.is⟩
theorem boxIn_nil : BoxIn #[] [] [] := ⟨rfl, fun _ _ => rfl, fun p h => by simp at h⟩
theorem BoxIn.same {es : Array MapEntry} {bs : List (Int × Int × Int)} {M : List T} {t : T} (h : BoxIn es bs M) (hn : t ∉ M) (hk : t.k ≠ 6) : BoxIn es bs (M ++ [t]) :=
  ⟨h.rows, fun a b => by rw [h.is, nm_snoc hn, if_neg (fun e => hk (by rw [← e]; rfl))], h.pos⟩
theorem nm_zero {M : List T} {t : T} (hn : t ∉ M) : nm M t = 0 := by
  unfold nm; rw [find_none.2 hn]
theorem BoxIn.new {es : Array MapEntry} {bs : List (Int × Int × Int)} {M : List T} {a b : Int} (h : BoxIn es bs M) (hn : boxT a b ∉ M) : (bs.find? fun p => decide (p.1 = a ∧ p.2.1 = b)) = none := by
  have := h.is a b
  rw [nm_zero hn] at this
  unfold boxB at this
  cases hf : bs.find? fun p => decide (p.1 = a ∧ p.2.1 = b) with
  | none => rfl
  | some p =>
    rw [hf] at this
    dsimp only at this
    have := h.pos p (List.mem_of_find?_eq_some hf)
    omega
theorem BoxIn.step {es : Array MapEntry} {bs : List (Int × Int × Int)} {M : List T} {a b : Int} {ck : Nat} (h : BoxIn es bs M) (hn : boxT a b ∉ M) :
    BoxIn (es.push { key := .agg #[.int .i64 a, .int .i64 b], val := .int .i64 ((M.length : Int) + 1), born := ck }) (bs ++ [(a, b, (M.length : Int) + 1)]) (M ++ [boxT a b]) := by
  refine ⟨?_, fun a' b' => ?_, fun p hp => ?_⟩
  · have := h.rows
    simp only [boxVals] at this ⊢
    simp [this]
  · have hnew := h.new hn
    have his := h.is a' b'
    rw [nm_snoc hn, ← his]
    unfold boxB
    rw [List.find?_append]
    by_cases e : a' = a ∧ b' = b
    · obtain ⟨rfl, rfl⟩ := e
      rw [hnew, if_pos rfl]
      simp
    · have e2 : ¬ (boxT a' b' = boxT a b) := fun h => e ⟨by simpa [boxT] using congrArg T.a h, by simpa [boxT] using congrArg T.b h⟩
      rw [if_neg e2]
      cases hf : bs.find? fun p => decide (p.1 = a' ∧ p.2.1 = b') with
      | some p => simp
      | none =>
        have e3 : ¬ (a = a' ∧ b = b') := fun h => e ⟨h.1.symm, h.2.symm⟩
        simp [e3]
  · rcases List.mem_append.1 hp with hp | hp
    · exact h.pos p hp
    · simp at hp; subst hp; dsimp only; omega

/-- A map's block of the call's own. -/
theorem Hd.setMap {W w : World} {Rs : List Res} {k : Nat} {o : Obj} (o' : Obj) (h : Hd W w (Blk k o :: Rs)) : Hd W (setMap w k o') (Blk k o' :: Rs) := by
  have hb := h.blk
  obtain ⟨f, hR, hf, hlt, hshut⟩ := h.open
  have hRf : f = fun i => if i = k then some o else none := hR
  subst hRf
  have hk := (Array.getElem?_eq_some_iff.1 hb).1
  refine hshut _ _ (fun i => if i = k then some o' else none) rfl (fun i o2 hi => ?_) (fun i hi => ?_) rfl rfl rfl (by simp [Go.Proofs.Ytpcfmafokkffgaa.setMap]) (fun i hi hi2 => ?_)
  · dsimp only at hi
    split at hi
    · rename_i e; subst e
      simp only [Option.some.injEq] at hi
      subst hi
      simp [Go.Proofs.Ytpcfmafokkffgaa.setMap, hk]
    · cases hi
  · split at hi
    · rename_i e; subst e; exact .inl (by simp)
    · exact absurd rfl hi
  · have : k ≠ i := fun e => by subst e; simp at hi2
    simp [Go.Proofs.Ytpcfmafokkffgaa.setMap, Array.getElem?_setIfInBounds_ne this]

/-- The marks of those that are known. -/
structure MarksOf (N : Nat) (ks : List Int) (j : Nat) (cs : List Bool) : Prop where
  len : cs.length = N
  is : ∀ x, on cs x = true ↔ x ∈ ks.take j
  inn : ∀ x ∈ ks.take j, 1 ≤ x ∧ x < N
theorem on_false (N : Nat) (x : Int) : on (List.replicate N false) x = false := by
  unfold on
  simp only [List.getD_eq_getElem?_getD, List.getElem?_replicate]
  split <;> rfl
theorem marksOf_start (N : Nat) (ks : List Int) : MarksOf N ks 0 (List.replicate N false) := ⟨by simp, fun x => by simp [on_false], fun x h => by simp at h⟩
theorem MarksOf.step {N : Nat} {ks : List Int} {j : Nat} {cs : List Bool} {x : Int} (h : MarksOf N ks j cs) (hx : ks[j]? = some x) (h1 : 1 ≤ x) (h2 : x < N) : MarksOf N ks (j + 1) (lrn cs x) := by
  have e : ks.take (j + 1) = ks.take j ++ [x] := by rw [List.take_add_one, hx]; rfl
  have hl := h.len
  refine ⟨by rw [lrn_length]; exact hl, fun y => ?_, fun y hy => ?_⟩
  · rw [e, List.mem_append, List.mem_singleton, ← h.is]
    by_cases h0 : 0 ≤ y
    · rw [on_lrn (by omega) (by omega) h0]
      simp only [Bool.or_eq_true, decide_eq_true_eq]
      exact ⟨fun h => h.imp id Eq.symm, fun h => h.imp id Eq.symm⟩
    · have e1 : y.toNat = (0 : Int).toNat := by omega
      have e2 : ∀ cs : List Bool, on cs y = on cs 0 := fun cs => by unfold on; rw [e1]
      rw [e2, e2, on_lrn (by omega) (by omega) (by omega)]
      simp only [Bool.or_eq_true, decide_eq_true_eq]
      constructor
      · rintro (h | h)
        · exact .inl h
        · omega
      · rintro (h | h)
        · exact .inl h
        · omega
  · rw [e, List.mem_append, List.mem_singleton] at hy
    rcases hy with hy | rfl
    · exact h.inn y hy
    · exact ⟨h1, h2⟩
theorem MarksOf.marks {L : List T} {N : Nat} {ks : List Int} {cs : List Bool} {dh kem : Bool} (hN : N = L.length + 1) (h : MarksOf N ks ks.length cs) : Marks L dh kem (fun x => x ∈ ks) cs := by
  have e : ks.take ks.length = ks := List.take_length
  have his := h.is
  rw [e] at his
  have hin := h.inn
  rw [e] at hin
  refine ⟨by rw [h.len, hN], ?_, fun x hx => .known x ((his x).1 hx), fun x hx => (his x).2 hx⟩
  cases h0 : on cs 0 with
  | false => rfl
  | true => have := hin 0 ((his 0).1 h0); omega
end Go.Proofs.Ytpcfmafokkffgaa
namespace Go.Proofs.Ytpcfmafokkffgaa
open Go.RowKit

/-- So many names lie there. -/
def KsIn (w : World) (ad : Option Addr) (ks : List Int) : Prop := ∀ (i : Nat) (z : Int), ks[i]? = some z → ∃ g o, ad = some ⟨g, o, none⟩ ∧ w.cell? ⟨g, o + i, none⟩ = some (.int .i64 z)
theorem KsIn.later {w w' : World} {ad : Option Addr} {ks : List Int} (h : KsIn w ad ks) (hb : Below w.heap.size w w') : KsIn w' ad ks := fun i z hi => by
  obtain ⟨g, o, ha, hc⟩ := h i z hi
  exact ⟨g, o, ha, (hb.cell (World.block_lt_of_cell? w _ hc)).trans hc⟩

theorem not_in_take {L : List T} {q : Nat} {t : T} (g : Good L) (hat : At L (q : Int) t) : t ∉ L.take (q - 1) := by
  intro h
  obtain ⟨i, hi, e⟩ := List.getElem_of_mem h
  have h1 : L[i]? = some t := by
    have := List.getElem?_eq_getElem hi
    rw [List.getElem?_take, e] at this
    split at this
    · exact this
    · cases this
  have h2 := g.nodup i _ t h1 hat.is
  have h3 : i < q - 1 := by simp at hi; omega
  have := hat.lo
  omega

/-- What begin leaves. -/
def BeginPost (L : List T) (dh kem : Bool) (ks : List Int) (w : World) (e : Ending) (w' : World) : Prop :=
  ((∀ x ∈ ks, 1 ≤ x ∧ x ≤ L.length) ∧ ∃ hb lb cb pb kb mb N es ck cs, e = .returned (.tuple #[.pointer (some ⟨hb, 0, none⟩), .bool true]) ∧ MdOk L N es cs ∧ Marks L dh kem (fun x => x ∈ ks) cs ∧ Hd w w' (Mind hb lb cb pb kb mb N L dh kem es ck cs [])) ∨
  (¬ (∀ x ∈ ks, 1 ≤ x ∧ x ≤ L.length) ∧ e = .returned (.tuple #[.pointer none, .bool false]) ∧ Below w.heap.size w w')

/-- The rows on the way. -/
abbrev Fill (hb lb cb pb kb mb N : Nat) (L : List T) (dh kem : Bool) (es : Array MapEntry) (ck q : Nat) (Rs : List Res) : List Res :=
  Blk lb (.cells (cellsOf (rowsT L N q)).toArray 47 (0, 0)) :: Blk cb (.cells (bools (List.replicate N false)).toArray 4 (0, 0)) :: Blk pb (.cells (ints (pubs (L.take (q - 1)) N)).toArray 3 (0, 0)) :: Blk kb (.cells (ints (kpus (L.take (q - 1)) N)).toArray 3 (0, 0)) ::
    Blk mb (.map es ck) :: Blk hb (mindHead lb cb pb kb mb N dh kem) :: Rs

section
variable {W w : World} {hb lb cb pb kb mb N ck q : Nat} {L : List T} {dh kem : Bool} {es : Array MapEntry} {Rs : List Res} {o : Obj} {A : Res}
theorem Hd.fbox (h : Hd W w (Fill hb lb cb pb kb mb N L dh kem es ck q Rs)) (o : Obj) (k : Nat) (hk : w.heap.size = k) : Hd W (w.alloc o) (Fill hb lb cb pb kb mb N L dh kem es ck q (Blk k o :: Rs)) := by
  subst hk
  refine Hd.perm ?_ (h.box o)
  exact (List.perm_middle (a := Blk w.heap.size o) (l₁ := [_, _, _, _, _, _]) (l₂ := Rs)).symm
end

set_option maxRecDepth 100000 in
set_option maxHeartbeats 16000000 in
theorem begin_m {b : Nat} {L : List T} {m : Int} {lb0 db0 mb0 lc0 dc0 : Nat} {w : World} (dh kem : Bool) (ad : Option Addr) (len cap : Nat) (ks : List Int) (hlen : len = ks.length) (hmax : len ≤ maxLen) (hks : KsIn w ad ks) (h : StoAt w b L m lb0 db0 mb0 lc0 dc0) :
    Calls Try.prog 60 #[.pointer (some ⟨b, 0, none⟩), .slice ad len cap, .agg #[.bool dh, .bool kem]] w (BeginPost L dh kem ks w) := by
  have hgd := hid h.good
  have hL : L.length ≤ 1048576 := by have := h.m1; have := h.len; omega
  have hs := hid h
  have Hlen := hid hlen
  have Hks := hid hks
  have Hmax := hid hmax
  obtain ⟨N, hN⟩ : ∃ N, N = L.length + 1 := ⟨_, rfl⟩
  have HN := hid hN
  have hN1 : N ≤ 1048577 := by omega
  have hN2 : 1 ≤ N := by omega
  have HNN : Hid ((L.length : Int) + 1 = (N : Int)) := hid (by omega)
  clear hks hlen hmax h hN
  go_enter Try.func60, Try.ntmps60
  go_wp2_with fail
  have hb1 : Below w.heap.size w (w.alloc (.cells #[.bool dh, .bool kem] 69 (0, 0))) := (Below.refl _ _).alloc (Nat.le_refl _) _
  refine (len_calls' (hs.out.later hb1)).mono ?_
  rintro e w1 ⟨rfl, rfl⟩
  go_wp2_with fail
  rw [HNN.out]
  have H1 := hid ((Hd.refl w).box (.cells #[.bool dh, .bool kem] 69 (0, 0)))
  have hk := H1.out.blk
  refine begin_made (W := w) (N := N) (B := w.heap.size) (dh := dh) (kem := kem) (by kernel_rfl) (by kernel_rfl) (by simp) hN1 rfl rfl (by rw [cell_of_heap hk]; rfl) (by rw [cell_of_heap hk]; rfl) H1.out ?_
  intro f w2 g hb2 hf9 hh
  simp only [patchG, Nat.reduceAdd, Nat.reduceLeDiff, Nat.reduceBEq, decide_true, decide_false, Bool.and_true, Bool.and_false, Bool.or_true, Bool.or_false, cond_true, cond_false, hf9]
  have H2 : Hid (Hd w w2 (Fill (g 11) (g 1) (g 3) (g 5) (g 7) (g 8) N L dh kem #[] 0 1 [Blk w.heap.size (.cells #[.bool dh, .bool kem] 69 (0, 0))])) := hid (by
    have := hh
    rw [rowsT_start L N hN2] at this
    simp only [Fill, List.take_zero, Nat.sub_self, pubs_start, kpus_start]
    exact this)
  clear hh hf9 hb2 hk H1 hb1
  generalize g 1 = lb at *
  generalize g 3 = cb at *
  generalize g 5 = pb at *
  generalize g 7 = kb at *
  generalize g 8 = mb at *
  generalize g 11 = hb at *
  generalize hfb : w.heap.size = fb at *
  generalize f 18 = f18
  generalize f 19 = f19
  generalize f 20 = f20
  generalize f 21 = f21
  generalize f 22 = f22
  generalize f 23 = f23
  generalize f 24 = f24
  generalize f 25 = f25
  generalize f 26 = f26
  generalize f 27 = f27
  generalize f 28 = f28
  generalize f 29 = f29
  clear f g
  go_wp2_with fail
  go_loopw [10] (fun i wr => ∃ q : Nat, 1 ≤ q ∧ q ≤ N ∧ i = .int .i64 q ∧ ∃ es ck bs, Hid (BoxIn es bs (L.take (q - 1))) ∧ Hid (Hd w wr (Fill hb lb cb pb kb mb N L dh kem es ck q [Blk fb (.cells #[.bool dh, .bool kem] 69 (0, 0))]))) (fun i _ => N - (intOf i).toNat)
  case atStart => exact ⟨1, Nat.le_refl _, hN2, rfl, #[], 0, [], hid boxIn_nil, H2⟩
  case round =>
    clear H2
    obtain ⟨q, hq1, hqN, rfl, es, ck, bs, HB, H⟩ := hrel
    by_cases hlt : q < N
    · have hd1 : decide ((q : Int) < (N : Int)) = true := by simp; omega
      have hd1' : decide (q < N) = true := by simp; omega
      obtain ⟨t, hat⟩ : ∃ t, At L (q : Int) t := at_of (by omega) (by have := HN.out; omega)
      obtain ⟨k, s, n, a, b', c⟩ := t
      have Hat := hid hat
      have hmay := hat.may hgd.out
      clear hat
      go_wp2_with fail
      refine (get_calls (q : Int) (hs.out.later H.out.below)).mono ?_
      rw [Hat.out.getT.1, Hat.out.getT.2]
      simp only [T.val]
      rintro e w3 ⟨rfl, hb3⟩
      have H3 := hid (H.out.still hb3)
      clear hb3 H
      go_wp2_with fail
      obtain ⟨X, hX⟩ : ∃ X, X = w3.alloc (.cells #[.int .i64 k, .string s, .int .u64 n, .int .i64 a, .int .i64 b', .int .i64 c] 47 (0, 0)) := ⟨_, rfl⟩
      have H4 : Hid (Hd w X (Fill hb lb cb pb kb mb N L dh kem es ck q [Blk w3.heap.size (.cells #[.int .i64 k, .string s, .int .u64 n, .int .i64 a, .int .i64 b', .int .i64 c] 47 (0, 0)), Blk fb (.cells #[.bool dh, .bool kem] 69 (0, 0))])) := hid (by rw [hX]; exact H3.out.fbox _ _ rfl)
      rw [← hX]
      clear hX H3
      generalize w3.heap.size = Bt at *
      have zq0 : (0 : Int) ≤ (q : Int) := by omega
      have zq1 : (q : Int) < (N : Int) := by omega
      have hz := rowsT_at hq1 hlt HN.out
      have hl := Hd.kth 0 H4.out rfl
      have o0 : X.cell? ⟨lb, q * 6, none⟩ = some (.int .i64 0) := by rw [cell_of_heap hl, List.getElem?_toArray]; exact cellsOf_get hz (j := 0) rfl
      have o1 : X.cell? ⟨lb, q * 6 + 1, none⟩ = some (.string ⟨#[]⟩) := by rw [cell_of_heap hl, List.getElem?_toArray]; exact cellsOf_get hz (j := 1) rfl
      have o2 : X.cell? ⟨lb, q * 6 + 2, none⟩ = some (.int .u64 0) := by rw [cell_of_heap hl, List.getElem?_toArray]; exact cellsOf_get hz (j := 2) rfl
      have o3 : X.cell? ⟨lb, q * 6 + 3, none⟩ = some (.int .i64 0) := by rw [cell_of_heap hl, List.getElem?_toArray]; exact cellsOf_get hz (j := 3) rfl
      have o4 : X.cell? ⟨lb, q * 6 + 4, none⟩ = some (.int .i64 0) := by rw [cell_of_heap hl, List.getElem?_toArray]; exact cellsOf_get hz (j := 4) rfl
      have o5 : X.cell? ⟨lb, q * 6 + 5, none⟩ = some (.int .i64 0) := by rw [cell_of_heap hl, List.getElem?_toArray]; exact cellsOf_get hz (j := 5) rfl
      have g0 : X.frozen? ⟨lb, q * 6, none⟩ = false := frozen_of_heap hl _
      have g1 : X.frozen? ⟨lb, q * 6 + 1, none⟩ = false := frozen_of_heap hl _
      have g2 : X.frozen? ⟨lb, q * 6 + 2, none⟩ = false := frozen_of_heap hl _
      have g3 : X.frozen? ⟨lb, q * 6 + 3, none⟩ = false := frozen_of_heap hl _
      have g4 : X.frozen? ⟨lb, q * 6 + 4, none⟩ = false := frozen_of_heap hl _
      have g5 : X.frozen? ⟨lb, q * 6 + 5, none⟩ = false := frozen_of_heap hl _
      have hh := Hd.kth 5 H4.out rfl
      have k0 := (cell_of_heap hh 0).trans (show _ = some (.slice (some ⟨lb, 0, none⟩) N N) from rfl)
      have ht := Hd.kth 6 H4.out rfl
      have d0 := (cell_of_heap ht 0).trans (show _ = some (.int .i64 k) from rfl)
      have d1 := (cell_of_heap ht 1).trans (show _ = some (.string s) from rfl)
      have d2 := (cell_of_heap ht 2).trans (show _ = some (.int .u64 n) from rfl)
      have d3 := (cell_of_heap ht 3).trans (show _ = some (.int .i64 a) from rfl)
      have d4 := (cell_of_heap ht 4).trans (show _ = some (.int .i64 b') from rfl)
      have d5 := (cell_of_heap ht 5).trans (show _ = some (.int .i64 c) from rfl)
      have Hmay := hid hmay
      clear hl hh ht hz hmay
      have hlq0 : ((L.take (q - 1)).length : Int) + 1 = (q : Int) := by
        have := HN.out
        simp only [List.length_take]
        omega
      have Hlq := hid hlq0
      clear hlq0
      by_cases h3 : k = 3
      · subst h3
        go_still_tail 7, (by kernel_rfl)
        change wpList _ _ _ _ _ X.drew
        go_wp2_with fail
        have H5 := hid ((((((((H4.out.set (q * 6) (.int .i64 3)).set (q * 6 + 1) (.string s)).set (q * 6 + 2) (.int .u64 n)).set (q * 6 + 3) (.int .i64 a)).set (q * 6 + 4) (.int .i64 b')).set (q * 6 + 5) (.int .i64 c))).dr)
        rw [row_set6 ⟨3, s, n, a, b', c⟩ _ q (by rw [rowsT_length HN.out hq1 hqN]; exact hlt), rowsT_step HN.out hq1 hlt Hat.out] at H5
        clear o0 o1 o2 o3 o4 o5 g0 g1 g2 g3 g4 g5 k0 d0 d1 d2 d3 d4 d5 H4
        obtain ⟨Y, hY⟩ : ∃ Y, ((((((X.setCell ⟨lb, q * 6, none⟩ (.int .i64 3)).setCell ⟨lb, q * 6 + 1, none⟩ (.string s)).setCell ⟨lb, q * 6 + 2, none⟩ (.int .u64 n)).setCell ⟨lb, q * 6 + 3, none⟩ (.int .i64 a)).setCell ⟨lb, q * 6 + 4, none⟩ (.int .i64 b')).setCell ⟨lb, q * 6 + 5, none⟩ (.int .i64 c)).drew = Y := ⟨_, rfl⟩
        rw [hY] at H5 ⊢
        clear hY
        have pa := parts_in hgd.out Hat.out (p := a) (by simp [T.parts, many])
        obtain ⟨a, rfl⟩ : ∃ i : Nat, a = i := ⟨a.toNat, by omega⟩
        have za0 : (0 : Int) ≤ (a : Int) := by omega
        have xa : a < N := by have := HN.out; omega
        have za1 : (a : Int) < (N : Int) := by omega
        have hh := Hd.kth 5 H5.out rfl
        have k2 := (cell_of_heap hh 2).trans (show _ = some (.slice (some ⟨pb, 0, none⟩) N N) from rfl)
        have ht := Hd.kth 6 H5.out rfl
        have d3 := (cell_of_heap ht 3).trans (show _ = some (.int .i64 (a : Int)) from rfl)
        have hp := Hd.kth 2 H5.out rfl
        have o0 : ∃ v, Y.cell? ⟨pb, a, none⟩ = some v := by
          rw [cell_of_heap hp]
          exact ⟨_, Array.getElem?_eq_getElem (by simp [ints, pubs, xa])⟩
        obtain ⟨v0, o0⟩ := o0
        have g0 : Y.frozen? ⟨pb, a, none⟩ = false := frozen_of_heap hp _
        have l0 := (Array.getElem?_eq_some_iff.1 hp).1
        clear hh ht hp
        go_still_tail 8, (by kernel_rfl)
        change wpList _ _ _ _ _ Y.drew
        go_wp2_with fail
        have H6 := hid ((((Hd.perm (List.perm_middle (l₁ := [_, _])) H5.out).set a (.int .i64 (q : Int))).dr))
        rw [ints_set] at H6
        have H7 := hid (Hd.perm (List.perm_middle (l₁ := [_, _])).symm H6.out)
        clear k2 d3 o0 g0 l0 H5 H6
        go_roundw
        case rel =>
          refine ⟨q + 1, by omega, by omega, by go_num, es, ck, bs, ?_, ?_⟩
          · rw [Nat.add_sub_cancel, take_succ_at Hat.out]
            exact hid (HB.out.same (not_in_take hgd.out Hat.out) (by simp))
          · have h7 := (Hd.perm (List.perm_middle (l₁ := [_, _, _, _, _, _])) H7.out).drop
            have ht := may_pub3 (Hat.out.may hgd.out) rfl
            have hn := not_in_take hgd.out Hat.out
            have e1 : (pubs (L.take (q - 1)) N).set a (q : Int) = pubs (L.take (q + 1 - 1)) N := by
              rw [Nat.add_sub_cancel, take_succ_at Hat.out, ← Hlq.out, ht]
              rw [ht] at hn
              exact pubs_step hn xa
            have e2 : kpus (L.take (q - 1)) N = kpus (L.take (q + 1 - 1)) N := by
              rw [Nat.add_sub_cancel, take_succ_at Hat.out]
              exact (kpus_same hn (by simp)).symm
            rw [e1, e2] at h7
            exact hid h7
        case measure => simp [intOf]; omega
      by_cases h5 : k = 5
      · subst h5
        go_still_tail 7, (by kernel_rfl)
        change wpList _ _ _ _ _ X.drew
        go_wp2_with fail
        have H5 := hid ((((((((H4.out.set (q * 6) (.int .i64 5)).set (q * 6 + 1) (.string s)).set (q * 6 + 2) (.int .u64 n)).set (q * 6 + 3) (.int .i64 a)).set (q * 6 + 4) (.int .i64 b')).set (q * 6 + 5) (.int .i64 c))).dr)
        rw [row_set6 ⟨5, s, n, a, b', c⟩ _ q (by rw [rowsT_length HN.out hq1 hqN]; exact hlt), rowsT_step HN.out hq1 hlt Hat.out] at H5
        clear o0 o1 o2 o3 o4 o5 g0 g1 g2 g3 g4 g5 k0 d0 d1 d2 d3 d4 d5 H4
        obtain ⟨Y, hY⟩ : ∃ Y, ((((((X.setCell ⟨lb, q * 6, none⟩ (.int .i64 5)).setCell ⟨lb, q * 6 + 1, none⟩ (.string s)).setCell ⟨lb, q * 6 + 2, none⟩ (.int .u64 n)).setCell ⟨lb, q * 6 + 3, none⟩ (.int .i64 a)).setCell ⟨lb, q * 6 + 4, none⟩ (.int .i64 b')).setCell ⟨lb, q * 6 + 5, none⟩ (.int .i64 c)).drew = Y := ⟨_, rfl⟩
        rw [hY] at H5 ⊢
        clear hY
        have pa := parts_in hgd.out Hat.out (p := a) (by simp [T.parts, many])
        obtain ⟨a, rfl⟩ : ∃ i : Nat, a = i := ⟨a.toNat, by omega⟩
        have za0 : (0 : Int) ≤ (a : Int) := by omega
        have xa : a < N := by have := HN.out; omega
        have za1 : (a : Int) < (N : Int) := by omega
        have hh := Hd.kth 5 H5.out rfl
        have k2 := (cell_of_heap hh 3).trans (show _ = some (.slice (some ⟨kb, 0, none⟩) N N) from rfl)
        have ht := Hd.kth 6 H5.out rfl
        have d3 := (cell_of_heap ht 3).trans (show _ = some (.int .i64 (a : Int)) from rfl)
        have hp := Hd.kth 3 H5.out rfl
        have o0 : ∃ v, Y.cell? ⟨kb, a, none⟩ = some v := by
          rw [cell_of_heap hp]
          exact ⟨_, Array.getElem?_eq_getElem (by simp [ints, kpus, xa])⟩
        obtain ⟨v0, o0⟩ := o0
        have g0 : Y.frozen? ⟨kb, a, none⟩ = false := frozen_of_heap hp _
        have l0 := (Array.getElem?_eq_some_iff.1 hp).1
        clear hh ht hp
        go_still_tail 8, (by kernel_rfl)
        change wpList _ _ _ _ _ Y.drew
        go_wp2_with fail
        have H6 := hid ((((Hd.perm (List.perm_middle (l₁ := [_, _, _])) H5.out).set a (.int .i64 (q : Int))).dr))
        rw [ints_set] at H6
        have H7 := hid (Hd.perm (List.perm_middle (l₁ := [_, _, _])).symm H6.out)
        clear k2 d3 o0 g0 l0 H5 H6
        go_roundw
        case rel =>
          refine ⟨q + 1, by omega, by omega, by go_num, es, ck, bs, ?_, ?_⟩
          · rw [Nat.add_sub_cancel, take_succ_at Hat.out]
            exact hid (HB.out.same (not_in_take hgd.out Hat.out) (by simp))
          · have h7 := (Hd.perm (List.perm_middle (l₁ := [_, _, _, _, _, _])) H7.out).drop
            have ht := may_kpu5 (Hat.out.may hgd.out) rfl
            have hn := not_in_take hgd.out Hat.out
            have e1 : (kpus (L.take (q - 1)) N).set a (q : Int) = kpus (L.take (q + 1 - 1)) N := by
              rw [Nat.add_sub_cancel, take_succ_at Hat.out, ← Hlq.out, ht]
              rw [ht] at hn
              exact kpus_step hn xa
            have e2 : pubs (L.take (q - 1)) N = pubs (L.take (q + 1 - 1)) N := by
              rw [Nat.add_sub_cancel, take_succ_at Hat.out]
              exact (pubs_same hn (by simp)).symm
            rw [e1, e2] at h7
            exact hid h7
        case measure => simp [intOf]; omega
      by_cases h6 : k = 6
      · subst h6
        go_still_tail 7, (by kernel_rfl)
        change wpList _ _ _ _ _ X.drew
        go_wp2_with fail
        have H5 := hid ((((((((H4.out.set (q * 6) (.int .i64 6)).set (q * 6 + 1) (.string s)).set (q * 6 + 2) (.int .u64 n)).set (q * 6 + 3) (.int .i64 a)).set (q * 6 + 4) (.int .i64 b')).set (q * 6 + 5) (.int .i64 c))).dr)
        rw [row_set6 ⟨6, s, n, a, b', c⟩ _ q (by rw [rowsT_length HN.out hq1 hqN]; exact hlt), rowsT_step HN.out hq1 hlt Hat.out] at H5
        clear o0 o1 o2 o3 o4 o5 g0 g1 g2 g3 g4 g5 k0 d0 d1 d2 d3 d4 d5 H4
        obtain ⟨Y, hY⟩ : ∃ Y, ((((((X.setCell ⟨lb, q * 6, none⟩ (.int .i64 6)).setCell ⟨lb, q * 6 + 1, none⟩ (.string s)).setCell ⟨lb, q * 6 + 2, none⟩ (.int .u64 n)).setCell ⟨lb, q * 6 + 3, none⟩ (.int .i64 a)).setCell ⟨lb, q * 6 + 4, none⟩ (.int .i64 b')).setCell ⟨lb, q * 6 + 5, none⟩ (.int .i64 c)).drew = Y := ⟨_, rfl⟩
        rw [hY] at H5 ⊢
        clear hY
        have pa := parts_in hgd.out Hat.out (p := a) (by simp [T.parts, many])
        have hh := Hd.kth 5 H5.out rfl
        have k4 := (cell_of_heap hh 4).trans (show _ = some (.map (some mb)) from rfl)
        have ht := Hd.kth 6 H5.out rfl
        have d3 := (cell_of_heap ht 3).trans (show _ = some (.int .i64 a) from rfl)
        have d4 := (cell_of_heap ht 4).trans (show _ = some (.int .i64 b') from rfl)
        have hm := Hd.kth 4 H5.out rfl
        have htb := may_box6 (Hat.out.may hgd.out) rfl
        have hnb := not_in_take hgd.out Hat.out
        rw [htb] at hnb
        have hmu := mapUpdate_K a b' (q : Int) Y.drew hm HB.out.rows (HB.out.new hnb)
        have Htb := hid htb
        have Hnb := hid hnb
        clear hh ht hm htb hnb
        go_still_tail 10, (by kernel_rfl)
        change wpList _ _ _ _ _ Y.drew
        go_wp2_with fail
        have H6 := hid ((Hd.perm (List.perm_middle (l₁ := [_, _, _, _])) H5.out).dr.setMap (.map (es.push { key := .agg #[.int .i64 a, .int .i64 b'], val := .int .i64 (q : Int), born := ck }) (ck + 1)))
        have H7 := hid (Hd.perm (List.perm_middle (l₁ := [_, _, _, _])).symm H6.out)
        clear k4 d3 d4 hmu H5 H6
        go_roundw
        case rel =>
          refine ⟨q + 1, by omega, by omega, by go_num, es.push { key := .agg #[.int .i64 a, .int .i64 b'], val := .int .i64 (q : Int), born := ck }, ck + 1, bs ++ [(a, b', (q : Int))], ?_, ?_⟩
          rotate_left
          · have h7 := (Hd.perm (List.perm_middle (l₁ := [_, _, _, _, _, _])) H7.out).drop
            have hn := not_in_take hgd.out Hat.out
            have e1 : pubs (L.take (q - 1)) N = pubs (L.take (q + 1 - 1)) N := by
              rw [Nat.add_sub_cancel, take_succ_at Hat.out]
              exact (pubs_same hn (by simp)).symm
            have e2 : kpus (L.take (q - 1)) N = kpus (L.take (q + 1 - 1)) N := by
              rw [Nat.add_sub_cancel, take_succ_at Hat.out]
              exact (kpus_same hn (by simp)).symm
            rw [e1, e2] at h7
            exact hid h7
          · have := HB.out.step (ck := ck) Hnb.out
            rw [Hlq.out, ← Htb.out, ← take_succ_at Hat.out] at this
            rw [Nat.add_sub_cancel]
            exact hid this
        case measure => simp [intOf]; omega
      have e3 : (k == 3) = false := by simpa using h3
      have e5 : (k == 5) = false := by simpa using h5
      have e6 : (k == 6) = false := by simpa using h6
      have Hk3 := hid h3
      have Hk5 := hid h5
      have Hk6 := hid h6
      clear h3 h5 h6
      go_still_tail 7, (by kernel_rfl)
      change wpList _ _ _ _ _ X.drew
      go_wp2_with fail
      have H5 := hid ((((((((H4.out.set (q * 6) (.int .i64 k)).set (q * 6 + 1) (.string s)).set (q * 6 + 2) (.int .u64 n)).set (q * 6 + 3) (.int .i64 a)).set (q * 6 + 4) (.int .i64 b')).set (q * 6 + 5) (.int .i64 c))).dr)
      rw [row_set6 ⟨k, s, n, a, b', c⟩ _ q (by rw [rowsT_length HN.out hq1 hqN]; exact hlt), rowsT_step HN.out hq1 hlt Hat.out] at H5
      clear o0 o1 o2 o3 o4 o5 g0 g1 g2 g3 g4 g5 k0 d0 d1 d2 d3 d4 d5 H4
      go_roundw
      case rel =>
        refine ⟨q + 1, by omega, by omega, by go_num, es, ck, bs, ?_, ?_⟩
        · rw [Nat.add_sub_cancel, take_succ_at Hat.out]
          exact hid (HB.out.same (not_in_take hgd.out Hat.out) Hk6.out)
        · have h7 := (Hd.perm (List.perm_middle (l₁ := [_, _, _, _, _, _])) H5.out).drop
          have hn := not_in_take hgd.out Hat.out
          have e1 : pubs (L.take (q - 1)) N = pubs (L.take (q + 1 - 1)) N := by
            rw [Nat.add_sub_cancel, take_succ_at Hat.out]
            exact (pubs_same hn Hk3.out).symm
          have e2 : kpus (L.take (q - 1)) N = kpus (L.take (q + 1 - 1)) N := by
            rw [Nat.add_sub_cancel, take_succ_at Hat.out]
            exact (kpus_same hn Hk5.out).symm
          rw [e1, e2] at h7
          exact hid h7
      case measure => simp [intOf]; omega
    · have hd1 : decide ((q : Int) < (N : Int)) = false := by simp; omega
      have hd1' : decide (q < N) = false := by simp; omega
      have hqe : q = N := by omega
      have H8 : Hid (Hd w wr (Blk lb (.cells (cellsOf (zeroT :: L)).toArray 47 (0, 0)) :: Blk cb (.cells (bools (List.replicate N false)).toArray 4 (0, 0)) :: Blk pb (.cells (ints (pubs L N)).toArray 3 (0, 0)) :: Blk kb (.cells (ints (kpus L N)).toArray 3 (0, 0)) :: Blk mb (.map es ck) :: Blk hb (mindHead lb cb pb kb mb N dh kem) :: [])) := hid (by
        have h8 := (Hd.perm (List.perm_middle (l₁ := [_, _, _, _, _, _])) H.out).drop
        rw [hqe, rowsT_end L N HN.out, show L.take (N - 1) = L from by rw [HN.out, Nat.add_sub_cancel, List.take_length]] at h8
        exact h8)
      have H9 := hid (Hd.perm (List.perm_middle (l₁ := [_])) H8.out)
      have H10 := hid (Hd.perm (List.Perm.cons _ (List.perm_middle (l₁ := [_, _, _, _]) (l₂ := []))) H9.out)
      have HB' : Hid (BoxOk es L) := hid (by
        have := HB.out.ok
        rw [hqe, show L.take (N - 1) = L from by rw [HN.out, Nat.add_sub_cancel, List.take_length]] at this
        exact this)
      clear H H8 H9 HB hqe
      obtain ⟨wo, hwo⟩ : ∃ wo : World, wo = wr := ⟨_, rfl⟩
      rw [← hwo] at H10 ⊢
      clear hwo wr
      have hlm : len ≤ 9223372036854775807 := by have := Hmax.out; unfold maxLen at this; exact this
      go_wp2_with fail
      go_loopw [84] (fun i wr => ∃ j : Nat, j ≤ len ∧ i = .int .i64 j ∧ ∃ cs, Hid (MarksOf N ks j cs) ∧ Hid (Hd w wr (Mind hb lb cb pb kb mb N L dh kem es ck cs []))) (fun i _ => len - (intOf i).toNat)
      case atStart => exact ⟨0, Nat.zero_le _, rfl, _, hid (marksOf_start N ks), H10⟩
      case round =>
        clear H10 hd1 hd1'
        obtain ⟨j, hj, rfl, cs, HM, H⟩ := hrel
        by_cases hjl : j < len
        · have hd1 : decide ((j : Int) < (len : Int)) = true := by simp; omega
          have hd1' : decide (j < len) = true := by simp; omega
          obtain ⟨z, hz⟩ : ∃ z, ks[j]? = some z := ⟨ks[j]'(by rw [← Hlen.out]; exact hjl), List.getElem?_eq_getElem _⟩
          obtain ⟨gg, oo, rfl, hc0⟩ := (Hks.out.later H.out.below) j z hz
          have zj0 : (0 : Int) ≤ (j : Int) := by omega
          have zj1 : (j : Int) < (len : Int) := by omega
          have Hz := hid hz
          clear hz
          by_cases hin : 1 ≤ z ∧ z < N
          · obtain ⟨z, rfl⟩ : ∃ i : Nat, z = i := ⟨z.toNat, by omega⟩
            have t1 : decide ((z : Int) < 1) = false := by simp; omega
            have t2 : decide ((N : Int) ≤ (z : Int)) = false := by simp; omega
            have t3 : decide (N ≤ z) = false := by simp; omega
            have zz0 : (0 : Int) ≤ (z : Int) := by omega
            have zz1 : (z : Int) < (N : Int) := by omega
            have xz : z < N := by omega
            have hh := Hd.kth 1 H.out rfl
            have k1 := (cell_of_heap hh 1).trans (show _ = some (.slice (some ⟨cb, 0, none⟩) N N) from rfl)
            have hp := Hd.kth 0 H.out rfl
            have o0 : ∃ v, wr.cell? ⟨cb, z, none⟩ = some v := by
              rw [cell_of_heap hp]
              exact ⟨_, Array.getElem?_eq_getElem (by simp [bools, HM.out.len, xz])⟩
            obtain ⟨v0, o0⟩ := o0
            have g0 : wr.frozen? ⟨cb, z, none⟩ = false := frozen_of_heap hp _
            have l0 := (Array.getElem?_eq_some_iff.1 hp).1
            have Hin := hid hin
            clear hh hp hin
            go_wp2_with fail
            have H11 := hid (H.out.set z (.bool true))
            rw [bools_set] at H11
            clear k1 o0 g0 l0 H
            go_roundw
            case rel => exact ⟨j + 1, by omega, by go_num, _, hid (HM.out.step Hz.out Hin.out.1 Hin.out.2), H11⟩
            case measure => simp [intOf]; omega
          · have Hno : Hid (¬ (∀ x ∈ ks, 1 ≤ x ∧ x ≤ L.length)) := hid fun hall => hin (by
              have := hall z (List.mem_of_getElem? Hz.out)
              have := HN.out
              omega)
            by_cases t1 : z < 1
            · have e1 : decide (z < 1) = true := by simpa using t1
              clear hin t1
              go_wp2_with fail
              go_ret2
              exact .inr ⟨Hno.out, rfl, H.out.below⟩
            · have e1 : decide (z < 1) = false := by simpa using t1
              have e2 : decide ((N : Int) ≤ z) = true := by simp; omega
              clear hin t1
              go_wp2_with fail
              go_ret2
              exact .inr ⟨Hno.out, rfl, H.out.below⟩
        · have hd1 : decide ((j : Int) < (len : Int)) = false := by simp; omega
          have hd1' : decide (j < len) = false := by simp; omega
          have Hj : Hid (j = ks.length) := hid (by rw [← Hlen.out]; omega)
          go_wp2_with fail
          go_ret2
          have hm := HM.out
          rw [Hj.out] at hm
          refine .inl ⟨fun x hx => ?_, hb, lb, cb, pb, kb, mb, N, es, ck, cs, rfl, ⟨hgd.out, hL, HN.out, by rw [hm.len, HN.out], HB'.out⟩, hm.marks HN.out, H.out⟩
          have := hm.inn x (by rw [List.take_length]; exact hx)
          have := HN.out
          omega
end Go.Proofs.Ytpcfmafokkffgaa
namespace Go.Proofs.Ytpcfmafokkffgaa
open Go.RowKit

/-- The way in which a kind is made. -/
def wayF (k : Nat) : FuncId :=
  match k with
  | 1 => 99
  | 3 => 100
  | 4 => 101
  | 5 => 100
  | 6 => 102
  | 7 => 103
  | 8 => 104
  | 9 => 100
  | 10 => 105
  | 11 => 104
  | _ => 98

section
variable {W w : World} {hb lb cb pb kb mb N ck : Nat} {L : List T} {dh kem : Bool} {es : Array MapEntry} {cs : List Bool} {Rs : List Res}

theorem way_m (k : Nat) (s : ByteArray) (n a b c : Int) {x : Int} (hat : At L x ⟨k, s, n, a, b, c⟩) (h : MindAt w hb lb cb pb kb mb N L dh kem cs) :
    Calls Try.prog (wayF k) #[.pointer (some ⟨hb, 0, none⟩), .agg #[.int .i64 k, .string s, .int .u64 n, .int .i64 a, .int .i64 b, .int .i64 c]] w fun e w' => e = .returned (.bool (mkB L dh kem (on cs) ⟨k, s, n, a, b, c⟩)) ∧ Below w.heap.size w w' := by
  have hm := hat.may h.good
  have k1 := hm.1
  have k2 := hm.2.1
  have hp := hm.2.2.2.2.2
  dsimp only at k1 k2
  have hk : k = 1 ∨ k = 2 ∨ k = 3 ∨ k = 4 ∨ k = 5 ∨ k = 6 ∨ k = 7 ∨ k = 8 ∨ k = 9 ∨ k = 10 ∨ k = 11 := by omega
  rcases hk with rfl | rfl | rfl | rfl | rfl | rfl | rfl | rfl | rfl | rfl | rfl <;> simp [T.parts, many] at hp
  · exact text_m _ _ s n a b c w
  · exact none_m _ _ s n a b c w
  · exact one_m _ s n a b c h (by omega) hp.2
  · exact share_m _ s n a b c h (by omega) hp.1.2 (by omega) hp.2.2
  · exact one_m _ s n a b c h (by omega) hp.2
  · exact wrap_m _ s n a b c h (by omega) hp.1.2 (by omega) hp.2.2
  · exact kem_m _ s n a b c h (by omega) hp.1.2 (by omega) hp.2.2
  · exact both_m _ s n a b c h (by omega) hp.1.2 (by omega) hp.2.2
  · exact one_m _ s n a b c h (by omega) hp.2
  · exact seal_m _ s n a b c h (by omega) hp.1.2 (by omega) hp.2.1.2 (by omega) hp.2.2.2
  · exact both_m _ s n a b c h (by omega) hp.1.2 (by omega) hp.2.2

set_option maxRecDepth 100000 in
set_option maxHeartbeats 2000000 in
theorem makes_m (hd : Hd W w Rs) :
    Calls Try.prog 81 #[] w fun e w' => e = .returned (.agg #[.func (.func 98) #[] #[], .func (.func 99) #[] #[], .func (.func 98) #[] #[], .func (.func 100) #[] #[], .func (.func 101) #[] #[], .func (.func 100) #[] #[], .func (.func 102) #[] #[], .func (.func 103) #[] #[], .func (.func 104) #[] #[], .func (.func 100) #[] #[], .func (.func 105) #[] #[], .func (.func 104) #[] #[]]) ∧ Hd W w' Rs := by
  have H := hid hd
  clear hd
  go_enter Try.func81, Try.ntmps81
  go_wp2_with fail
  refine bodyPost_ret (v := .agg #[.func (.func 98) #[] #[], .func (.func 99) #[] #[], .func (.func 98) #[] #[], .func (.func 100) #[] #[], .func (.func 101) #[] #[], .func (.func 100) #[] #[], .func (.func 102) #[] #[], .func (.func 103) #[] #[], .func (.func 104) #[] #[], .func (.func 100) #[] #[], .func (.func 105) #[] #[], .func (.func 104) #[] #[]]) (by simp [results, Try.results81, go_sem]) rfl ⟨rfl, H.out.al⟩

theorem ways_at {g : Nat} (h : w.heap[g]? = some (.cells #[.func (.func 98) #[] #[], .func (.func 99) #[] #[], .func (.func 98) #[] #[], .func (.func 100) #[] #[], .func (.func 101) #[] #[], .func (.func 100) #[] #[], .func (.func 102) #[] #[], .func (.func 103) #[] #[], .func (.func 104) #[] #[], .func (.func 100) #[] #[], .func (.func 105) #[] #[], .func (.func 104) #[] #[]] 174 (0, 0))) (k : Nat) (hk : k < 12) : w.cell? ⟨g, k, none⟩ = some (.func (.func (wayF k)) #[] #[]) := by
  rw [cell_of_heap h]
  have : k = 0 ∨ k = 1 ∨ k = 2 ∨ k = 3 ∨ k = 4 ∨ k = 5 ∨ k = 6 ∨ k = 7 ∨ k = 8 ∨ k = 9 ∨ k = 10 ∨ k = 11 := by omega
  rcases this with rfl | rfl | rfl | rfl | rfl | rfl | rfl | rfl | rfl | rfl | rfl | rfl <;> rfl

theorem cf_way (k : Nat) (hk : k < 12) (args : Array Value) (w : World) : (callFunc (wayF k) args).run Try.prog w = .ok (.enter (wayF k) args) w := by
  have : k = 0 ∨ k = 1 ∨ k = 2 ∨ k = 3 ∨ k = 4 ∨ k = 5 ∨ k = 6 ∨ k = 7 ∨ k = 8 ∨ k = 9 ∨ k = 10 ∨ k = 11 := by omega
  rcases this with rfl | rfl | rfl | rfl | rfl | rfl | rfl | rfl | rfl | rfl | rfl | rfl <;> (show _ = _; kernel_rfl)

/-- What all leaves. -/
def AllPost (W : World) (hb lb cb pb kb mb N ck : Nat) (L : List T) (dh kem : Bool) (es : Array MapEntry) (K : Int → Prop) (Rs : List Res) (e : Ending) (w' : World) : Prop :=
  e = .returned (.tuple #[]) ∧ ∃ cs, (∀ x, on cs x = true ↔ Der L dh kem K x) ∧ MdOk L N es cs ∧ Hd W w' (Mind hb lb cb pb kb mb N L dh kem es ck cs Rs)

theorem Pass.step' {K : Int → Prop} {cs0 cs : List Bool} {q : Nat} {more : Bool} {t : T} (g : Good L) (h : Pass L dh kem K cs0 (q - 1) more cs) (hat : At L (q : Int) t) (hq : 1 ≤ q) :
    Pass L dh kem K cs0 (q + 1 - 1) (more || (visit L dh kem cs (q : Int) t).1) (visit L dh kem cs (q : Int) t).2 := by
  obtain ⟨n, rfl⟩ : ∃ n, q = n + 1 := ⟨q - 1, by omega⟩
  have := Pass.step g (n := n) h (t := t) (by simpa using hat)
  simpa using this
theorem on_lrn_self {cs : List Bool} {q : Nat} (h : q < cs.length) : on (lrn cs (q : Int)) (q : Int) = true := by
  rw [on_lrn (by omega) (by omega) (by omega)]; simp
theorem visit_on {t : T} {q : Nat} {cs : List Bool} (h : on cs (q : Int) = true) : visit L dh kem cs (q : Int) t = apt cs t := by simp [visit, h]
theorem visit_no {t : T} {q : Nat} {cs : List Bool} (h : on cs (q : Int) = false) (hm : mkB L dh kem (on cs) t = false) : visit L dh kem cs (q : Int) t = (false, cs) := by simp [visit, h, hm]
theorem visit_mk {t : T} {q : Nat} {cs : List Bool} (hq : q < cs.length) (h : on cs (q : Int) = false) (hm : mkB L dh kem (on cs) t = true) : visit L dh kem cs (q : Int) t = (true, (apt (lrn cs (q : Int)) t).2) := by
  simp [visit, h, hm, on_lrn_self hq]

theorem Lies.free {w : World} {k : Nat} {o : Obj} : ∀ (i : Nat) {Rs : List Res} {u : Nat → Prop}, Lies w u Rs → Rs[i]? = some (Blk k o) → ¬ u k
  | 0, A :: Rs, u, h, e => by
    have e2 : A = Blk k o := by simpa using e
    subst e2
    obtain ⟨f, hf, _, hd, _⟩ := h
    exact hd k (by rw [show f = _ from hf]; simp)
  | i + 1, A :: Rs, u, h, e => by
    obtain ⟨f, _, _, _, hr⟩ := h
    exact fun hu => Lies.free i hr (by simpa using e) (.inl hu)
  | _, [], _, _, e => by simp at e
/-- The first block is another one. -/
theorem Hd.apart {W w : World} {k k' : Nat} {o o' : Obj} {Rs : List Res} (i : Nat) (h : Hd W w (Blk k o :: Rs)) (e : Rs[i]? = some (Blk k' o')) : k ≠ k' := by
  obtain ⟨_, f, hf, _, _, hr⟩ := h
  have := Lies.free i hr e
  intro hk
  subst hk
  exact this (.inr (by rw [show f = _ from hf]; simp))

set_option maxRecDepth 100000 in
set_option maxHeartbeats 16000000 in
theorem all_m (K : Int → Prop) (hK : Marks L dh kem K cs) (ok : MdOk L N es cs) (hd : Hd W w (Mind hb lb cb pb kb mb N L dh kem es ck cs Rs)) :
    Calls Try.prog 61 #[.pointer (some ⟨hb, 0, none⟩)] w (AllPost W hb lb cb pb kb mb N ck L dh kem es K Rs) := by
  have H := hid hd
  have HK := hid hK
  have hN := ok.hN
  have hs := ok.small
  have gd := hid ok.good
  have bx := hid ok.box
  have HN := hid hN
  have hN2 : N ≤ 1048577 := by omega
  clear hd ok hK hN hs
  have key : ∀ cs', Marks L dh kem K cs' → MdOk L N es cs' := fun cs' h => ⟨gd.out, by have := HN.out; omega, HN.out, h.len, bx.out⟩
  have Key := hid key
  clear key
  go_enter Try.func61, Try.ntmps61
  go_wp2_with fail
  go_step3
  go_wp2_with fail
  refine (makes_m H.out).mono ?_
  rintro e w1 ⟨rfl, h1⟩
  have H1 := hid h1
  clear h1 H
  go_wp2_with fail
  have H2 := hid (H1.out.mbox (.cells #[.func (.func 98) #[] #[], .func (.func 99) #[] #[], .func (.func 98) #[] #[], .func (.func 100) #[] #[], .func (.func 101) #[] #[], .func (.func 100) #[] #[], .func (.func 102) #[] #[], .func (.func 103) #[] #[], .func (.func 104) #[] #[], .func (.func 100) #[] #[], .func (.func 105) #[] #[], .func (.func 104) #[] #[]] 174 (0, 0)) w1.heap.size rfl)
  obtain ⟨w2, hw2⟩ : ∃ w2, w2 = w1.alloc (.cells #[.func (.func 98) #[] #[], .func (.func 99) #[] #[], .func (.func 98) #[] #[], .func (.func 100) #[] #[], .func (.func 101) #[] #[], .func (.func 100) #[] #[], .func (.func 102) #[] #[], .func (.func 103) #[] #[], .func (.func 104) #[] #[], .func (.func 100) #[] #[], .func (.func 105) #[] #[], .func (.func 104) #[] #[]] 174 (0, 0)) := ⟨_, rfl⟩
  rw [← hw2] at H2 ⊢
  clear hw2 H1
  generalize w1.heap.size = Bw at *
  apply wp_label
  go_wp2_with fail
  go_loopg [3] (N - cnt cs) (fun g _more wr => ∃ cs0 : List Bool, g = N - cnt cs0 ∧ Hid (Marks L dh kem K cs0) ∧ Hid (Hd W wr (Mind hb lb cb pb kb mb N L dh kem es ck cs0 (Blk Bw (.cells #[.func (.func 98) #[] #[], .func (.func 99) #[] #[], .func (.func 98) #[] #[], .func (.func 100) #[] #[], .func (.func 101) #[] #[], .func (.func 100) #[] #[], .func (.func 102) #[] #[], .func (.func 103) #[] #[], .func (.func 104) #[] #[], .func (.func 100) #[] #[], .func (.func 105) #[] #[], .func (.func 104) #[] #[]] 174 (0, 0)) :: Rs))))
  case atStart => exact ⟨cs, rfl, HK, H2⟩
  case round =>
    clear H2 HK
    obtain ⟨cs0, hg, HK, H⟩ := hrel
    have Hg := hid hg
    clear hg
    obtain ⟨wo, hwo⟩ : ∃ wo : World, wo = wr := ⟨_, rfl⟩
    rw [← hwo] at H ⊢
    clear hwo wr
    go_wp2_with fail
    go_loopw [3, 4] (fun more i wr => ∃ q : Nat, 1 ≤ q ∧ q ≤ N ∧ i = .int .i64 q ∧ ∃ (m : Bool) (cs1 : List Bool), more = .bool m ∧ Hid (Pass L dh kem K cs0 (q - 1) m cs1) ∧ Hid (Hd W wr (Mind hb lb cb pb kb mb N L dh kem es ck cs1 (Blk Bw (.cells #[.func (.func 98) #[] #[], .func (.func 99) #[] #[], .func (.func 98) #[] #[], .func (.func 100) #[] #[], .func (.func 101) #[] #[], .func (.func 100) #[] #[], .func (.func 102) #[] #[], .func (.func 103) #[] #[], .func (.func 104) #[] #[], .func (.func 100) #[] #[], .func (.func 105) #[] #[], .func (.func 104) #[] #[]] 174 (0, 0)) :: Rs)))) (fun _ i _ => N - (intOf i).toNat)
    case atStart => exact ⟨1, Nat.le_refl _, by have := HN.out; omega, rfl, false, cs0, rfl, hid (Pass.start HK.out), H⟩
    case round =>
      clear H
      obtain ⟨q, hq1, hqN, rfl, m, cs1, rfl, HP, H⟩ := hrel
      have OkC := hid (Key.out _ HP.out.marks)
      have xq1 := hq1
      by_cases hlt : q < N
      · have hd1 : decide ((q : Int) < (N : Int)) = true := by simp; omega
        have hd1' : decide (q < N) = true := by simp; omega
        obtain ⟨t, hat⟩ : ∃ t, At L (q : Int) t := at_of (by omega) (by have := HN.out; omega)
        obtain ⟨k, s, n, a, b, c⟩ := t
        have hm := Hd.mindOk H.out OkC.out
        have hmay := hat.may hm.good
        have hk1 := hmay.1
        have hk2 := hmay.2.1
        dsimp only at hk1 hk2
        obtain ⟨k, rfl⟩ : ∃ i : Nat, k = i := ⟨k.toNat, by omega⟩
        have zk0 : (0 : Int) ≤ (k : Int) := by omega
        have zk1 : (k : Int) < 12 := by omega
        have hk12 : k < 12 := by omega
        have hg : (zeroT :: L)[q]? = some ⟨k, s, n, a, b, c⟩ := by
          have := hat.is
          obtain ⟨i, rfl⟩ : ∃ i, q = i + 1 := ⟨q - 1, by omega⟩
          simpa using this
        have c0 := hm.cl q _ hg 0 _ rfl
        have c1 := hm.cl q _ hg 1 _ rfl
        have c2 := hm.cl q _ hg 2 _ rfl
        have c3 := hm.cl q _ hg 3 _ rfl
        have c4 := hm.cl q _ hg 4 _ rfl
        have c5 := hm.cl q _ hg 5 _ rfl
        simp only [Nat.add_zero] at c0
        have k0 := hm.h0
        have zq0 : (0 : Int) ≤ (q : Int) := by omega
        have zq1 : (q : Int) < (N : Int) := by omega
        have xq : q < N := hlt
        have Hat := hid hat
        clear hm hmay hg hat hk1 hk2
        go_wp2_with fail
        obtain ⟨w3, hw3⟩ : ∃ w3, w3 = wr.alloc (.cells #[.int .i64 k, .string s, .int .u64 n, .int .i64 a, .int .i64 b, .int .i64 c] 47 (0, 0)) := ⟨_, rfl⟩
        have H3 : Hid (Hd W w3 (Mind hb lb cb pb kb mb N L dh kem es ck cs1 (Blk wr.heap.size (.cells #[.int .i64 k, .string s, .int .u64 n, .int .i64 a, .int .i64 b, .int .i64 c] 47 (0, 0)) :: Blk Bw (.cells #[.func (.func 98) #[] #[], .func (.func 99) #[] #[], .func (.func 98) #[] #[], .func (.func 100) #[] #[], .func (.func 101) #[] #[], .func (.func 100) #[] #[], .func (.func 102) #[] #[], .func (.func 103) #[] #[], .func (.func 104) #[] #[], .func (.func 100) #[] #[], .func (.func 105) #[] #[], .func (.func 104) #[] #[]] 174 (0, 0)) :: Rs))) := hid (by rw [hw3]; exact H.out.mbox _ _ rfl)
        rw [← hw3]
        clear hw3 c0 c1 c2 c3 c4 c5 k0 H
        generalize wr.heap.size = Bt at *
        obtain ⟨p, hq⟩ : ∃ zz, on cs1 (q : Int) = zz := ⟨_, rfl⟩
        have Ep := hid hq
        clear hq
        have hm := H3.out.mindOk OkC.out
        have hk := Hd.kth 6 H3.out rfl
        have hw := Hd.kth 7 H3.out rfl
        have k1 : ∀ x : Later w3, x.w.cell? ⟨hb, 1, none⟩ = some (.slice (some ⟨cb, 0, none⟩) N N) := fun x => x.cell hm.h1
        have ca : ∀ x : Later w3, x.w.cell? ⟨cb, q, none⟩ = some (.bool p) := fun x => x.cell (by rw [← Ep.out]; exact hm.cc q xq)
        have d0 : ∀ x : Later w3, x.w.cell? ⟨Bt, 0, none⟩ = some (.int .i64 (k : Int)) := fun x => x.cell (by rw [cell_of_heap hk]; rfl)
        have d1 : ∀ x : Later w3, x.w.cell? ⟨Bt, 1, none⟩ = some (.string s) := fun x => x.cell (by rw [cell_of_heap hk]; rfl)
        have d2 : ∀ x : Later w3, x.w.cell? ⟨Bt, 2, none⟩ = some (.int .u64 n) := fun x => x.cell (by rw [cell_of_heap hk]; rfl)
        have d3 : ∀ x : Later w3, x.w.cell? ⟨Bt, 3, none⟩ = some (.int .i64 a) := fun x => x.cell (by rw [cell_of_heap hk]; rfl)
        have d4 : ∀ x : Later w3, x.w.cell? ⟨Bt, 4, none⟩ = some (.int .i64 b) := fun x => x.cell (by rw [cell_of_heap hk]; rfl)
        have d5 : ∀ x : Later w3, x.w.cell? ⟨Bt, 5, none⟩ = some (.int .i64 c) := fun x => x.cell (by rw [cell_of_heap hk]; rfl)
        have wk : ∀ x : Later w3, x.w.cell? ⟨Bw, k, none⟩ = some (.func (.func (wayF k)) #[] #[]) := fun x => x.cell (ways_at hw k hk12)
        obtain ⟨mk, hq⟩ : ∃ zz, mkB L dh kem (on cs1) ⟨k, s, n, a, b, c⟩ = zz := ⟨_, rfl⟩
        have Hway : Hid (∀ x : Later w3, Calls Try.prog (wayF k) #[.pointer (some ⟨hb, 0, none⟩), .agg #[.int .i64 (k : Int), .string s, .int .u64 n, .int .i64 a, .int .i64 b, .int .i64 c]] x.w fun e w'' => e = .returned (.bool mk) ∧ ∃ y : Later w3, w'' = y.w) := hid fun x => by rw [← hq]; exact Calls.calm (way_m k s n a b c Hat.out (hm.later x.below))
        have Em := hid hq
        clear hq hm hk hw
        cases p
        · cases mk
          · refine wp_region_calm (by kernel_rfl) (by kernel_rfl) ?_
            repeat (go_big_quiet_step (((rw [cf_way k hk12]; exact ⟨rfl, Hway.out _⟩))))
            refine wpQuiet_nil ?_
            intro w4 hw4
            obtain ⟨⟨w4, hb4⟩, rfl⟩ := hw4
            have H4 := hid (H3.out.still hb4)
            clear k1 ca d0 d1 d2 d3 d4 d5 wk hb4 H3
            have hm := Hd.mindOk H4.out OkC.out
            have k1 := hm.h1
            have cq := hm.cc q xq
            rw [Ep.out] at cq
            have fq := frozen_of_heap (Hd.kth 0 H4.out rfl) q
            have lq := hm.lts.2.2.1
            clear hm
            go_wp2_with fail
            go_roundw
            case rel =>
              have hv := Pass.step' gd.out HP.out Hat.out xq1
              rw [show visit L dh kem cs1 (q : Int) ⟨k, s, n, a, b, c⟩ = (false, cs1) from visit_no Ep.out Em.out] at hv
              exact ⟨q + 1, by omega, by omega, by go_num, _, _, by simp, hid hv, hid H4.out.mun⟩
            case measure => simp [intOf]; omega
          · refine wp_region_calm (by kernel_rfl) (by kernel_rfl) ?_
            repeat (go_big_quiet_step (((rw [cf_way k hk12]; exact ⟨rfl, Hway.out _⟩))))
            refine wpQuiet_nil ?_
            intro w4 hw4
            obtain ⟨⟨w4, hb4⟩, rfl⟩ := hw4
            have H4 := hid (H3.out.still hb4)
            clear k1 ca d0 d1 d2 d3 d4 d5 wk hb4 H3
            have hm := Hd.mindOk H4.out OkC.out
            have k1 := hm.h1
            have cq := hm.cc q xq
            rw [Ep.out] at cq
            have fq := frozen_of_heap (Hd.kth 0 H4.out rfl) q
            have lq := hm.lts.2.2.1
            clear hm
            have hk := Hd.kth 6 H4.out rfl
            have d0 := (cell_of_heap hk 0).trans (show _ = some (.int .i64 (k : Int)) from rfl)
            have d1 := (cell_of_heap hk 1).trans (show _ = some (.string s) from rfl)
            have d2 := (cell_of_heap hk 2).trans (show _ = some (.int .u64 n) from rfl)
            have d3 := (cell_of_heap hk 3).trans (show _ = some (.int .i64 a) from rfl)
            have d4 := (cell_of_heap hk 4).trans (show _ = some (.int .i64 b) from rfl)
            have d5 := (cell_of_heap hk 5).trans (show _ = some (.int .i64 c) from rfl)
            clear hk
            have n1 := Hd.apart 5 H4.out rfl
            have n2 : Bt ≠ cb := fun e => n1 e.symm
            have n3 := Hd.apart 0 H4.out rfl
            have n4 : hb ≠ cb := fun e => n3 e.symm
            go_wp2_with fail
            have OkC := hid (OkC.out.lrn (q : Int))
            have H6 := hid (H4.out.set q (.bool true))
            rw [bools_set] at H6
            clear H4 n1 n2 n3 n4
            obtain ⟨r, hq⟩ : ∃ zz, (apt (lrn cs1 (q : Int)) ⟨k, s, n, a, b, c⟩).1 = zz := ⟨_, rfl⟩
            have Er := hid hq
            clear hq
            refine (apart_m k s n a b c Hat.out OkC.out H6.out).mono ?_
            rw [Er.out]
            rintro e w5 ⟨rfl, h5⟩
            have H5 := hid h5.mun
            clear h5 k1 cq fq lq d0 d1 d2 d3 d4 d5 H6
            cases r
            · go_wp2_with fail
              go_roundw
              case rel =>
                have hv := Pass.step' gd.out HP.out Hat.out xq1
                rw [show visit L dh kem cs1 (q : Int) ⟨k, s, n, a, b, c⟩ = (true, (apt (lrn cs1 (q : Int)) ⟨k, s, n, a, b, c⟩).2) from visit_mk (by rw [HP.out.marks.len, ← HN.out]; exact xq) Ep.out Em.out] at hv
                exact ⟨q + 1, by omega, by omega, by go_num, _, _, by simp, hid hv, H5⟩
              case measure => simp [intOf]; omega
            · go_wp2_with fail
              go_roundw
              case rel =>
                have hv := Pass.step' gd.out HP.out Hat.out xq1
                rw [show visit L dh kem cs1 (q : Int) ⟨k, s, n, a, b, c⟩ = (true, (apt (lrn cs1 (q : Int)) ⟨k, s, n, a, b, c⟩).2) from visit_mk (by rw [HP.out.marks.len, ← HN.out]; exact xq) Ep.out Em.out] at hv
                exact ⟨q + 1, by omega, by omega, by go_num, _, _, by simp, hid hv, H5⟩
              case measure => simp [intOf]; omega
        · refine wp_region_calm (by kernel_rfl) (by kernel_rfl) ?_
          repeat (go_big_quiet_step (fail))
          refine wpQuiet_nil ?_
          intro w4 hw4
          obtain ⟨⟨w4, hb4⟩, rfl⟩ := hw4
          have H4 := hid (H3.out.still hb4)
          clear k1 ca d0 d1 d2 d3 d4 d5 wk hb4 H3
          have hm := Hd.mindOk H4.out OkC.out
          have k1 := hm.h1
          have cq := hm.cc q xq
          rw [Ep.out] at cq
          have fq := frozen_of_heap (Hd.kth 0 H4.out rfl) q
          have lq := hm.lts.2.2.1
          clear hm
          have hk := Hd.kth 6 H4.out rfl
          have d0 := (cell_of_heap hk 0).trans (show _ = some (.int .i64 (k : Int)) from rfl)
          have d1 := (cell_of_heap hk 1).trans (show _ = some (.string s) from rfl)
          have d2 := (cell_of_heap hk 2).trans (show _ = some (.int .u64 n) from rfl)
          have d3 := (cell_of_heap hk 3).trans (show _ = some (.int .i64 a) from rfl)
          have d4 := (cell_of_heap hk 4).trans (show _ = some (.int .i64 b) from rfl)
          have d5 := (cell_of_heap hk 5).trans (show _ = some (.int .i64 c) from rfl)
          clear hk
          go_wp2_with fail
          obtain ⟨r, hq⟩ : ∃ zz, (apt cs1 ⟨k, s, n, a, b, c⟩).1 = zz := ⟨_, rfl⟩
          have Er := hid hq
          clear hq
          refine (apart_m k s n a b c Hat.out OkC.out H4.out).mono ?_
          rw [Er.out]
          rintro e w5 ⟨rfl, h5⟩
          have H5 := hid h5.mun
          clear h5 k1 cq fq lq d0 d1 d2 d3 d4 d5 H4
          cases r
          · go_wp2_with fail
            go_roundw
            case rel =>
              have hv := Pass.step' gd.out HP.out Hat.out xq1
              rw [show visit L dh kem cs1 (q : Int) ⟨k, s, n, a, b, c⟩ = apt cs1 ⟨k, s, n, a, b, c⟩ from visit_on Ep.out] at hv
              exact ⟨q + 1, by omega, by omega, by go_num, _, _, by rw [Er.out]; simp, hid hv, H5⟩
            case measure => simp [intOf]; omega
          · go_wp2_with fail
            go_roundw
            case rel =>
              have hv := Pass.step' gd.out HP.out Hat.out xq1
              rw [show visit L dh kem cs1 (q : Int) ⟨k, s, n, a, b, c⟩ = apt cs1 ⟨k, s, n, a, b, c⟩ from visit_on Ep.out] at hv
              exact ⟨q + 1, by omega, by omega, by go_num, _, _, by rw [Er.out]; simp, hid hv, H5⟩
            case measure => simp [intOf]; omega
      · obtain rfl : q = N := by omega
        have hd1 : decide ((q : Int) < (q : Int)) = false := by simp
        have hd1' : decide (q < q) = false := by simp
        have hm := Hd.mindOk H.out OkC.out
        have k0 := hm.h0
        clear hm
        cases m
        · go_wp2_with fail
          have hp := HP.out
          rw [show q - 1 = L.length from by have := HN.out; omega] at hp
          exact bodyPost_ret (v := .tuple #[]) (by simp [results, Try.results61, go_sem]) rfl ⟨rfl, cs1, hp.done, OkC.out, H.out.mun⟩
        · have hgr := HP.out.grew rfl
          have hcl := cnt_le cs1
          have Hlt : Hid (q - cnt cs1 < gk) := hid (by
            have h1 := Hg.out
            have h2 := HP.out.marks.len
            have h3 := HN.out
            omega)
          clear hgr hcl
          go_wp2_with fail
          go_roundg (q - cnt cs1)
          case rel => exact ⟨cs1, rfl, hid HP.out.marks, H⟩
          case measure => exact Hlt.out
end
end Go.Proofs.Ytpcfmafokkffgaa
namespace Go.Proofs.Ytpcfmafokkffgaa
open Go.RowKit

/-- The names so far that are marked. -/
def markedTo (cs : List Bool) (j : Nat) : List Int := ((List.range j).map fun (i : Nat) => (i : Int)).filter fun x => on cs x
/-- What All answers. -/
def AllAns (L : List T) (dh kem : Bool) (ks : List Int) (w : World) (e : Ending) (w' : World) : Prop :=
  ((∀ x ∈ ks, 1 ≤ x ∧ x ≤ L.length) ∧ ∃ v, e = .returned (.tuple #[v, .int .i64 0]) ∧ Hd w w' [RowR 3 1 v (allOf L dh kem (fun x => x ∈ ks)).length (nums .i64 (allOf L dh kem (fun x => x ∈ ks)))]) ∨
  (¬ (∀ x ∈ ks, 1 ≤ x ∧ x ≤ L.length) ∧ e = .returned (.tuple #[.slice none 0 0, .int .i64 1]) ∧ Below w.heap.size w w')

open Classical in
/-- What Can answers. -/
def CanAns (L : List T) (dh kem : Bool) (ks : List Int) (x : Int) (w : World) (e : Ending) (w' : World) : Prop :=
  Below w.heap.size w w' ∧
  (((∀ x ∈ ks, 1 ≤ x ∧ x ≤ L.length) ∧ (1 ≤ x ∧ x ≤ L.length) ∧ e = .returned (.tuple #[.bool (decide (Der L dh kem (fun x => x ∈ ks) x)), .int .i64 0])) ∨
  ((∀ x ∈ ks, 1 ≤ x ∧ x ≤ L.length) ∧ ¬ (1 ≤ x ∧ x ≤ L.length) ∧ e = .returned (.tuple #[.bool false, .int .i64 5])) ∨
  (¬ (∀ x ∈ ks, 1 ≤ x ∧ x ≤ L.length) ∧ e = .returned (.tuple #[.bool false, .int .i64 1])))

set_option maxRecDepth 100000 in
set_option maxHeartbeats 16000000 in
theorem know_can {b : Nat} {L : List T} {m : Int} {lb0 db0 mb0 lc0 dc0 : Nat} {w : World} (dh kem : Bool) (ad : Option Addr) (len cap : Nat) (ks : List Int) (x : Int) (hlen : len = ks.length) (hmax : len ≤ maxLen) (hks : KsIn w ad ks) (h : StoAt w b L m lb0 db0 mb0 lc0 dc0) :
    Calls Try.prog 50 #[.pointer (some ⟨b, 0, none⟩), .slice ad len cap, .agg #[.bool dh, .bool kem], .int .i64 x] w (CanAns L dh kem ks x w) := by
  have hgd := hid h.good
  have hL : L.length ≤ 1048576 := by have := h.m1; have := h.len; omega
  have hs := hid h
  have Hlen := hid hlen
  have Hks := hid hks
  have Hmax := hid hmax
  clear hks hlen hmax h
  go_enter Try.func50, Try.ntmps50
  go_wp2_with fail
  have hb1 := hid (show Below w.heap.size w (w.alloc (.cells #[.bool dh, .bool kem] 69 (0, 0))) from (Below.refl _ _).alloc (Nat.le_refl _) _)
  refine (begin_m dh kem ad len cap ks Hlen.out Hmax.out (Hks.out.later hb1.out) (hs.out.later hb1.out)).mono ?_
  rintro e w1 (⟨hin, hb, lb, cb, pb, kb, mb, N, es, ck, cs, rfl, hok, hmk, hd⟩ | ⟨hno, rfl, hbl⟩)
  · have Hin := hid hin
    have Ok := hid hok
    have Mk := hid hmk
    have H := hid ((Hd.refl w).box _ |>.join hd)
    have HN := hid hok.hN
    clear hin hok hmk hd
    by_cases h1 : x < 1
    · have e1 : decide (x < 1) = true := by simpa using h1
      have Hx : Hid (¬ (1 ≤ x ∧ x ≤ L.length)) := hid (by omega)
      clear h1
      go_wp2_with fail
      go_ret2
      exact ⟨H.out.below, .inr (.inl ⟨Hin.out, Hx.out, rfl⟩)⟩
    · have e1 : decide (x < 1) = false := by simpa using h1
      by_cases h2 : (L.length : Int) < x
      · have e2 : decide ((L.length : Int) < x) = true := by simpa using h2
        have Hx : Hid (¬ (1 ≤ x ∧ x ≤ L.length)) := hid (by omega)
        clear h1 h2
        go_wp2_with fail
        refine (len_calls' (hs.out.later H.out.below)).mono ?_
        rintro e w2 ⟨rfl, rfl⟩
        go_wp2_with fail
        go_ret2
        exact ⟨H.out.below, .inr (.inl ⟨Hin.out, Hx.out, rfl⟩)⟩
      · have e2 : decide ((L.length : Int) < x) = false := by simpa using h2
        have Hx : Hid (1 ≤ x ∧ x ≤ L.length) := hid (by omega)
        obtain ⟨x, rfl⟩ : ∃ i : Nat, x = i := ⟨x.toNat, by omega⟩
        have zx0 : (0 : Int) ≤ (x : Int) := by omega
        have xx : x < N := by have := HN.out; omega
        have zx1 : (x : Int) < (N : Int) := by omega
        have e3 : decide (L.length < x) = false := by simp; omega
        clear h1 h2
        go_wp2_with fail
        refine (len_calls' (hs.out.later H.out.below)).mono ?_
        rintro e w2 ⟨rfl, rfl⟩
        go_wp2_with fail
        refine (all_m (fun x => x ∈ ks) Mk.out Ok.out (by exact H.out)).mono ?_
        rintro e w2 ⟨rfl, cs2, hder, hok2, hd2⟩
        have Hder := hid hder
        have hm := hd2.mindOk hok2
        have H2 := hid hd2
        have k1 := hm.h1
        have cx := hm.cc x xx
        have Ecx : Hid (on cs2 (x : Int) = @decide (Der L dh kem (fun x => x ∈ ks) (x : Int)) (Classical.propDecidable _)) := hid (by
          rw [Bool.eq_iff_iff, hder, @decide_eq_true_iff _ (Classical.propDecidable _)])
        obtain ⟨p, hp⟩ : ∃ zz, on cs2 (x : Int) = zz := ⟨_, rfl⟩
        rw [hp] at cx
        have Ep := hid hp
        clear hder hok2 hd2 H Ok Mk hm hp
        go_wp2_with fail
        go_ret2
        exact ⟨H2.out.below, .inl ⟨Hin.out, Hx.out, by rw [← Ep.out, Ecx.out]; rfl⟩⟩
  · have Hno := hid hno
    have Hbl := hid hbl
    clear hno hbl
    go_wp2_with fail
    go_ret2
    exact ⟨hb1.out.trans (Hbl.out.mono hb1.out.size), .inr (.inr ⟨Hno.out, rfl⟩)⟩
end Go.Proofs.Ytpcfmafokkffgaa
namespace Go.Proofs.Ytpcfmafokkffgaa
open Go.RowKit

section
variable {ops : Array Oper}
end
end Go.Proofs.Ytpcfmafokkffgaa
namespace Go.Proofs.Ytpcfmafokkffgaa
open Go.RowKit

section
variable {W w X w' : World} {E size n n' : Nat} {v : Value} {Rs : List Res}

end

section
variable {P : Program} {o : Oper} {a : Act} {w : World} {K : Act → World → Prop} {Q : Exit → Act → World → Prop}
end

/-- The statement 'k = append(k, 1+int(known[i])%s.Len())'. -/
def coreG (s0 tk tn ti ts : Nat) : List (Option Nat × Op) := [
  (some s0, .move (.tmp tk)), (some (s0 + 1), .move (.tmp tn)), (some (s0 + 2), .move (.tmp ti)), (some (s0 + 3), .indexAddr 98 (.tmp (s0 + 1)) (.tmp (s0 + 2))), (some (s0 + 4), .load 5 (.tmp (s0 + 3))),
  (some (s0 + 5), .convert 5 3 (.tmp (s0 + 4))), (some (s0 + 6), .move (.tmp ts)), (some (s0 + 7), .call { callee := .value (.func 18), args := #[.tmp (s0 + 6)], argTypes := #[25] }),
  (some (s0 + 8), .binOp .rem 3 (.tmp (s0 + 5)) (.tmp (s0 + 7)) 3), (some (s0 + 9), .binOp .add 3 (.const (.int .i64 1)) (.tmp (s0 + 8)) 3), (some (s0 + 10), .buildSlice 33 1 #[(0, .tmp (s0 + 9))]),
  (some (s0 + 11), .call { callee := .builtin .append, args := #[.tmp s0, .tmp (s0 + 10)], argTypes := #[33, 33] }), (some tk, .assign (.tmp (s0 + 11)))]
def needG : Nat → List Nat
  | 3 => [1, 2] | 4 => [3] | 5 => [4] | 7 => [6] | 8 => [5, 7] | 9 => [8] | 10 => [9] | 11 => [0, 10] | 12 => [11] | _ => []
def usesG : Nat → List Nat
  | 10 => [10] | _ => []
def valG (v : Value) (gg oo len2 cap2 j : Nat) (z : Int) (b N : Nat) (g : Nat → Nat) : Nat → Value
  | 0 => v
  | 1 => .slice (some ⟨gg, oo, none⟩) len2 cap2
  | 2 => .int .i64 j
  | 3 => .pointer (some ⟨gg, oo + j, none⟩)
  | 4 => .int .u8 z
  | 5 => .int .i64 z
  | 6 => .pointer (some ⟨b, 0, none⟩)
  | 7 => .int .i64 N
  | 8 => .int .i64 (z % N)
  | 9 => .int .i64 (1 + z % N)
  | 10 => .slice (some ⟨g 10, 0, none⟩) 1 1
  | _ => v
def resG (z : Int) (N : Nat) (g : Nat → Nat) : Nat → List Res
  | 10 => [Blk (g 10) (.cells (nums .i64 [1 + z % (N : Int)]).toArray 3 (0, 0))]
  | _ => []
section
variable {ρ : Operand → Value} {o : Oper} {w : World}
end

section
variable {W w : World} {b : Nat} {L : List T} {m : Int} {v : Value} {n : Nat} {ks : List Int} {Rs : List Res}

theorem Hd.row_ks (h : Hd W w (RowR 3 1 v n (nums .i64 ks) :: Rs)) : ∃ ad cap, v = .slice ad n cap ∧ n = ks.length ∧ n ≤ maxLen ∧ KsIn w ad ks := by
  have hlen : n = ks.length := by
    have := h.owns.1
    simp [nums] at this
    omega
  obtain ⟨hl, ⟨rfl, rfl⟩ | ⟨g, cap, cur, rfl, _, hc, h3, h4, h5, h6⟩⟩ := h.owns
  · refine ⟨_, _, rfl, hlen, Nat.zero_le _, fun i z hi => ?_⟩
    have : ks = [] := List.eq_nil_of_length_eq_zero (by omega)
    rw [this] at hi
    simp at hi
  · refine ⟨_, _, rfl, hlen, by omega, fun i z hi => ⟨g, 0, rfl, ?_⟩⟩
    rw [cell_of_heap hc, Nat.zero_add, ← Array.getElem?_toList]
    refine get_of_take h6 ?_
    simp [nums, hi]

/-- CAN, of a list of the call's own. -/
theorem can_c (dh kem : Bool) (x : Int) (ad : Option Addr) (cap : Nat) (hin : ∀ x ∈ ks, 1 ≤ x ∧ x ≤ L.length) (hx : 1 ≤ x ∧ x ≤ L.length) (h : Hd W w (Sto b L m :: RowR 3 1 (.slice ad n cap) n (nums .i64 ks) :: Rs)) :
    Calls Try.prog 50 #[.pointer (some ⟨b, 0, none⟩), .slice ad n cap, .agg #[.bool dh, .bool kem], .int .i64 x] w fun e w' => ∃ p : Bool, e = .returned (.tuple #[.bool p, .int .i64 0]) ∧ (p = true ↔ Der L dh kem (fun x => x ∈ ks) x) ∧
      Hd W w' (Sto b L m :: RowR 3 1 (.slice ad n cap) n (nums .i64 ks) :: Rs) := by
  obtain ⟨lb, db, mb, lc, dc, hs⟩ := h.sto
  obtain ⟨ad', cap', e, hn, hmax, hk⟩ := h.drop.row_ks
  simp only [Value.slice.injEq, true_and] at e
  obtain ⟨rfl, rfl⟩ := e
  refine (know_can dh kem ad n cap ks x hn hmax hk hs).mono ?_
  rintro e w' ⟨hb, (⟨_, _, rfl⟩ | ⟨_, hno, _⟩ | ⟨hno, _⟩)⟩
  · exact ⟨_, rfl, by simp, h.still hb⟩
  · exact absurd hx hno
  · exact absurd hin hno
end
end Go.Proofs.Ytpcfmafokkffgaa
