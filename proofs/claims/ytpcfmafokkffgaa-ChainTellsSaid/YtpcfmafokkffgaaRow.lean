/-
  Appending to the two rows of a store, whatever order the two are evaluated in: what holds of the world on the way. For every store.
-/
import Derived.Test.YtpcfmafokkffgaaMay
import Derived.Deep.RegionLaw
import Derived.Deep.AppendLies
namespace Go.Proofs.Ytpcfmafokkffgaa
open Go.RowKit

/-- The world on the way: the header holds h0 and h1; the rows vl and vd are owned; nothing else of W has turned. -/
structure PW (W : World) (b lb db mb : Nat) (m : Int) (h0 h1 vl : Value) (nl : Nat) (xs : List Value) (vd : Value) (nd : Nat) (ds : List Value) (X : World) : Prop where
  hdr : X.heap[b]? = some (.cells #[h0, h1, .map (some mb), .int .i64 m] 118 (0, 0))
  ol : X.ownsRow 0 47 6 vl nl xs
  od : X.ownsRow 0 3 1 vd nd ds
  bl : ∀ g, vl.ownBlock = some g → g ≠ b ∧ (g = lb ∨ W.heap.size ≤ g)
  bd : ∀ g, vd.ownBlock = some g → g ≠ b ∧ (g = db ∨ W.heap.size ≤ g)
  ld : ∀ g, vl.ownBlock = some g → vd.ownBlock ≠ some g
  lts : b < W.heap.size ∧ lb < W.heap.size ∧ db < W.heap.size ∧ lb ≠ db ∧ lb ≠ b ∧ db ≠ b
  old : ∀ k, k < W.heap.size → k ≠ b → k ≠ lb → k ≠ db → X.heap[k]? = W.heap[k]?
  os : X.os = W.os
  tape : X.tape = W.tape
  output : X.output = W.output
  size : W.heap.size ≤ X.heap.size

section
variable {W X : World} {b lb db mb : Nat} {m : Int} {h0 h1 vl : Value} {nl : Nat} {xs : List Value} {vd : Value} {nd : Nat} {ds : List Value}

theorem PW.drew (h : PW W b lb db mb m h0 h1 vl nl xs vd nd ds X) : PW W b lb db mb m h0 h1 vl nl xs vd nd ds X.drew :=
  ⟨h.hdr, h.ol, h.od, h.bl, h.bd, h.ld, h.lts, h.old, h.os, h.tape, h.output, h.size⟩

theorem PW.alloc (o : Obj) (h : PW W b lb db mb m h0 h1 vl nl xs vd nd ds X) : PW W b lb db mb m h0 h1 vl nl xs vd nd ds (X.alloc o) := by
  have hs := h.size
  refine ⟨?_, h.ol.alloc o, h.od.alloc o, h.bl, h.bd, h.ld, h.lts, fun k h1 h2 h3 h4 => ?_, h.os, h.tape, h.output, by simp; omega⟩
  · rw [Below.heap_alloc _ _ _ (by have := h.lts.1; omega)]; exact h.hdr
  · rw [Below.heap_alloc _ _ _ (by omega)]; exact h.old k h1 h2 h3 h4

theorem PW.c0 (h : PW W b lb db mb m h0 h1 vl nl xs vd nd ds X) : X.cell? ⟨b, 0, none⟩ = some h0 := by rw [cell_of_heap h.hdr]; rfl
theorem PW.c1 (h : PW W b lb db mb m h0 h1 vl nl xs vd nd ds X) : X.cell? ⟨b, 1, none⟩ = some h1 := by rw [cell_of_heap h.hdr]; rfl
theorem PW.f0 (h : PW W b lb db mb m h0 h1 vl nl xs vd nd ds X) : X.frozen? ⟨b, 0, none⟩ = false := frozen_of_heap h.hdr 0
theorem PW.f1 (h : PW W b lb db mb m h0 h1 vl nl xs vd nd ds X) : X.frozen? ⟨b, 1, none⟩ = false := frozen_of_heap h.hdr 1
theorem PW.lt (h : PW W b lb db mb m h0 h1 vl nl xs vd nd ds X) : b < X.heap.size := Nat.lt_of_lt_of_le h.lts.1 h.size

theorem PW.grown_l {X' : World} {g cap : Nat} {ys : List Value} (h : PW W b lb db mb m h0 h1 vl nl xs vd nd ds X) (ho : X'.ownsRow 0 47 6 (.slice (some ⟨g, 0, none⟩) (nl + 1) cap) (nl + 1) ys) (hg : X.grownBy X' vl.ownBlock)
    (hgg : vl.ownBlock = some g ∨ g = X.heap.size) : PW W b lb db mb m h0 h1 (.slice (some ⟨g, 0, none⟩) (nl + 1) cap) (nl + 1) ys vd nd ds X' := by
  obtain ⟨t1, t2, t3, t4, t5, t6⟩ := h.lts
  have hs := h.size
  have hvd := h.od.lt
  refine ⟨?_, ho, h.od.kept hg ?_, fun g' e => ?_, h.bd, fun g' e => ?_, h.lts, fun k k1 k2 k3 k4 => ?_, hg.os.trans h.os, hg.tape.trans h.tape, hg.output.trans h.output, Nat.le_trans hs hg.size⟩
  · rw [hg.block b (by omega) (fun e => (h.bl b e.symm).1 rfl)]; exact h.hdr
  · cases hv : vd.ownBlock with
    | none => exact .inl rfl
    | some k => exact .inr fun e => h.ld k e.symm hv
  · simp only [Value.ownBlock, Option.some.injEq] at e
    subst e
    rcases hgg with e | e
    · exact h.bl g e
    · exact ⟨by omega, .inr (by omega)⟩
  · simp only [Value.ownBlock, Option.some.injEq] at e
    subst e
    rcases hgg with e | e
    · exact h.ld g e
    · intro hv
      have := (hvd g hv).2
      omega
  · rw [hg.block k (by omega) (fun e => ?_)]
    · exact h.old k k1 k2 k3 k4
    · rcases (h.bl k e.symm).2 with e' | e'
      · exact k3 e'
      · omega

theorem PW.grown_d {X' : World} {g cap : Nat} {ys : List Value} (h : PW W b lb db mb m h0 h1 vl nl xs vd nd ds X) (ho : X'.ownsRow 0 3 1 (.slice (some ⟨g, 0, none⟩) (nd + 1) cap) (nd + 1) ys) (hg : X.grownBy X' vd.ownBlock)
    (hgg : vd.ownBlock = some g ∨ g = X.heap.size) : PW W b lb db mb m h0 h1 vl nl xs (.slice (some ⟨g, 0, none⟩) (nd + 1) cap) (nd + 1) ys X' := by
  obtain ⟨t1, t2, t3, t4, t5, t6⟩ := h.lts
  have hs := h.size
  have hvl := h.ol.lt
  refine ⟨?_, h.ol.kept hg ?_, ho, h.bl, fun g' e => ?_, fun g' e hv => ?_, h.lts, fun k k1 k2 k3 k4 => ?_, hg.os.trans h.os, hg.tape.trans h.tape, hg.output.trans h.output, Nat.le_trans hs hg.size⟩
  · rw [hg.block b (by omega) (fun e => (h.bd b e.symm).1 rfl)]; exact h.hdr
  · cases hv : vl.ownBlock with
    | none => exact .inl rfl
    | some k => exact .inr fun e => h.ld k hv e.symm
  · simp only [Value.ownBlock, Option.some.injEq] at e
    subst e
    rcases hgg with e | e
    · exact h.bd g e
    · exact ⟨by omega, .inr (by omega)⟩
  · simp only [Value.ownBlock, Option.some.injEq] at hv
    subst hv
    rcases hgg with e' | e'
    · exact h.ld g e e'
    · have := (hvl g e).2
      omega
  · rw [hg.block k (by omega) (fun e => ?_)]
    · exact h.old k k1 k2 k3 k4
    · rcases (h.bd k e.symm).2 with e' | e'
      · exact k4 e'
      · omega

theorem fragIn_later {w w' : World} {f : Frag} (h : FragIn f w) (hb : Below w.heap.size w w') : FragIn f w' := fun k o hk => by
  have hh := h k o hk
  rw [hb.block k (Array.getElem?_eq_some_iff.1 hh).1]; exact hh

theorem pw_start {b lb db mb lc dc ck : Nat} {lcur dcur : Array Value} {es : Array MapEntry} {L : List T} {m : Int} {w : World} (hf : FragIn (stoFrag b lb db mb lc dc ck lcur dcur es (L.length + 1) m) w) (h : StoOk b lb db mb lc dc lcur dcur es L m) :
    PW w b lb db mb m (.slice (some ⟨lb, 0, none⟩) (L.length + 1) lc) (.slice (some ⟨db, 0, none⟩) (L.length + 1) dc) (.slice (some ⟨lb, 0, none⟩) (L.length + 1) lc) (L.length + 1) (cellsOf (zeroT :: L))
      (.slice (some ⟨db, 0, none⟩) (L.length + 1) dc) (L.length + 1) (ints (depths L)) w := by
  obtain ⟨a1, a2, a3, a4, a5, a6⟩ := h.apart
  have h0 : w.heap[b]? = some (stoHead lb db mb lc dc (L.length + 1) m) := hf b _ (by simp [stoFrag])
  have h1 : w.heap[lb]? = some (.cells lcur 47 (0, 0)) := hf lb _ (by simp [stoFrag, Ne.symm a1])
  have h2 : w.heap[db]? = some (.cells dcur 3 (0, 0)) := hf db _ (by simp [stoFrag, Ne.symm a2, Ne.symm a4])
  refine ⟨h0, ⟨cellsOf_length _, .inr ⟨lb, lc, lcur, rfl, Nat.zero_le _, h1, h.lcap, h.lmax, h.lsize, h.lcells⟩⟩, ⟨by simp [ints, depths_length], .inr ⟨db, dc, dcur, rfl, Nat.zero_le _, h2, h.dcap, h.dmax, by simp [h.dsize], by simpa using h.dcells⟩⟩,
    fun g e => ?_, fun g e => ?_, fun g e e' => ?_, ⟨(Array.getElem?_eq_some_iff.1 h0).1, (Array.getElem?_eq_some_iff.1 h1).1, (Array.getElem?_eq_some_iff.1 h2).1, a4, Ne.symm a1, Ne.symm a2⟩, fun _ _ _ _ _ => rfl, rfl, rfl, rfl, Nat.le_refl _⟩
  · simp only [Value.ownBlock, Option.some.injEq] at e; subst e; exact ⟨Ne.symm a1, .inl rfl⟩
  · simp only [Value.ownBlock, Option.some.injEq] at e; subst e; exact ⟨Ne.symm a2, .inl rfl⟩
  · simp only [Value.ownBlock, Option.some.injEq] at e e'; exact a4 (e.trans e'.symm)

theorem heap_drew (w : World) : w.drew.heap = w.heap := rfl

theorem blk_keep {W X X1 : World} {lb n c k : Nat} {o : Obj} (hk : ∀ k, k < X.heap.size → W.heap.size ≤ k ∧ (Value.slice (some ⟨lb, 0, none⟩) n c).ownBlock ≠ some k → X1.heap[k]? = X.heap[k]?) (hl : lb < W.heap.size)
    (h : X.heap[k]? = some o) (h2 : W.heap.size ≤ k) : X1.heap[k]? = some o := by
  rw [hk k (Array.getElem?_eq_some_iff.1 h).1 ⟨h2, fun e => by simp only [Value.ownBlock, Option.some.injEq] at e; omega⟩]
  exact h

theorem info_T : ∃ i, Try.prog.info? 47 = some i ∧ i.zero = some (T.val zeroT) ∧ i.size = 6 ∧ i.bytes = 56 := info_parts (by kernel_rfl)
theorem info_int : ∃ i, Try.prog.info? 3 = some i ∧ i.zero = some (.int .i64 0) ∧ i.size = 1 ∧ i.bytes = 8 := info_parts (by kernel_rfl)

/-- APPEND A TERM, as one step of a region that draws its order. -/
theorem step_l {ops : Array Oper} {o : Oper} {a : Act} {K : Act → World → Prop} {Q : Exit → Act → World → Prop} {E : Prop} (hgd : o.guard = none) (s x : Operand)
    (ho : o.op = .call { callee := .builtin .append, args := #[s, x], argTypes := #[22, 22] }) (t : T) (x1 : Nat)
    (h : PW W b lb db mb m h0 h1 vl nl xs vd nd ds X) (hs : a.eval s = vl) (hx : a.eval x = .slice (some ⟨x1, 0, none⟩) 1 1) (hx1 : X.heap[x1]? = some (.cells (T.cells t).toArray 47 (0, 0))) (hn : nl ≤ 1048577)
    (hK : ∀ g cap X', PW W b lb db mb m h0 h1 (.slice (some ⟨g, 0, none⟩) (nl + 1) cap) (nl + 1) (xs ++ T.cells t) vd nd ds X' → (∀ k, k < X.heap.size → W.heap.size ≤ k ∧ vl.ownBlock ≠ some k → X'.heap[k]? = X.heap[k]?) → X.heap.size ≤ X'.heap.size →
      K (a.put o.dst (.slice (some ⟨g, 0, none⟩) (nl + 1) cap)) X') :
    if Region.wanted o (yielded ops a.tmps) = true then Oper.wp Try.prog o a X K Q else E := by
  obtain ⟨i, hi, hz, hsz, hby⟩ := info_T
  refine step_append_lies X hgd s x 22 ho 0 47 i (T.val zeroT) 6 56 (by kernel_rfl) hi hz hsz hby rfl (by decide) vl nl xs hs h.ol ⟨x1, 0, none⟩ 1 1 (T.cells t) hx rfl ?_ ?_ (by decide) (by simp only [maxLen]; omega) (by omega) (Nat.zero_le _) _ rfl ?_
  · exact World.news_of_block hx1
  · intro u hu
    simp only [T.cells, List.mem_cons, List.not_mem_nil, or_false] at hu
    rcases hu with rfl | rfl | rfl | rfl | rfl | rfl <;> rfl
  · intro g cap X' ho' hg hgg _
    exact hK g cap X' (h.grown_l ho' hg hgg) (fun k hk hk2 => hg.block k hk fun e => hk2.2 e.symm) hg.size

/-- APPEND A DEPTH. -/
theorem step_d {ops : Array Oper} {o : Oper} {a : Act} {K : Act → World → Prop} {Q : Exit → Act → World → Prop} {E : Prop} (hgd : o.guard = none) (s x : Operand)
    (ho : o.op = .call { callee := .builtin .append, args := #[s, x], argTypes := #[33, 33] }) (d : Int) (x1 : Nat)
    (h : PW W b lb db mb m h0 h1 vl nl xs vd nd ds X) (hs : a.eval s = vd) (hx : a.eval x = .slice (some ⟨x1, 0, none⟩) 1 1) (hx1 : X.heap[x1]? = some (.cells #[.int .i64 d] 3 (0, 0))) (hn : nd ≤ 1048577)
    (hK : ∀ g cap X', PW W b lb db mb m h0 h1 vl nl xs (.slice (some ⟨g, 0, none⟩) (nd + 1) cap) (nd + 1) (ds ++ [.int .i64 d]) X' → (∀ k, k < X.heap.size → W.heap.size ≤ k ∧ vd.ownBlock ≠ some k → X'.heap[k]? = X.heap[k]?) → X.heap.size ≤ X'.heap.size →
      K (a.put o.dst (.slice (some ⟨g, 0, none⟩) (nd + 1) cap)) X') :
    if Region.wanted o (yielded ops a.tmps) = true then Oper.wp Try.prog o a X K Q else E := by
  obtain ⟨i, hi, hz, hsz, hby⟩ := info_int
  refine step_append_lies X hgd s x 33 ho 0 3 i (.int .i64 0) 1 8 (by kernel_rfl) hi hz hsz hby rfl (by decide) vd nd ds hs h.od ⟨x1, 0, none⟩ 1 1 [.int .i64 d] hx rfl ?_ ?_ (by decide) (by simp only [maxLen]; omega) (by omega) (Nat.zero_le _) _ rfl ?_
  · exact World.news_of_block hx1
  · intro u hu
    simp only [List.mem_cons, List.not_mem_nil, or_false] at hu
    rcases hu with rfl; rfl
  · intro g cap X' ho' hg hgg _
    exact hK g cap X' (h.grown_d ho' hg hgg) (fun k hk hk2 => hg.block k hk fun e => hk2.2 e.symm) hg.size
end
end Go.Proofs.Ytpcfmafokkffgaa
