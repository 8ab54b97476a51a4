/-
  A store with room: puts that succeed, as contracts. For every store with room for one term more.
-/
import Derived.Test.YtpcfmafokkffgaaStores
namespace Go.Proofs.Ytpcfmafokkffgaa
open Go.RowKit

/-- x is a name. -/
structure In (L : List T) (x : Int) : Prop where
  lo : 1 ≤ x
  hi : x ≤ L.length
theorem In.ext {L L' : List T} {x : Int} (h : In L x) (e : Ext L L') : In L' x := ⟨h.lo, by have := h.hi; have := e.len; omega⟩
theorem At.inn {L : List T} {x : Int} {t : T} (h : At L x t) : In L x := ⟨h.lo, h.hi⟩
theorem In.term {L : List T} {x : Int} (h : In L x) : ∃ t, At L x t := at_of h.lo h.hi
theorem In.getB {L : List T} {x : Int} (h : In L x) : getB L x = true := by obtain ⟨t, ht⟩ := h.term; exact ht.getT.2

/-- A store of at most N terms. -/
structure Room (W w : World) (b : Nat) (L : List T) (m : Int) (N : Nat) (Rs : List Res) : Prop where
  hd : Hd W w (Sto b L m :: Rs)
  good : Good L
  len : L.length ≤ N

theorem Room.of {W w : World} {b : Nat} {L : List T} {m : Int} {N : Nat} {Rs : List Res} (h : Hd W w (Sto b L m :: Rs)) (hl : L.length ≤ N) : Room W w b L m N Rs := by
  obtain ⟨lb, db, mb, lc, dc, hs⟩ := h.sto
  exact ⟨h, hs.good, hl⟩
theorem Room.still {W w w' : World} {b : Nat} {L : List T} {m : Int} {N : Nat} {Rs : List Res} (h : Room W w b L m N Rs) (hb : Below w.heap.size w w') : Room W w' b L m N Rs := ⟨h.hd.still hb, h.good, h.len⟩

/-- What a call that names a term leaves. -/
def Named (W : World) (b : Nat) (L : List T) (m : Int) (N : Nat) (Rs : List Res) (t : T) (e : Ending) (w' : World) : Prop :=
  ∃ p L', e = .returned (.tuple #[.int .i64 p, .int .i64 0]) ∧ At L' p t ∧ Ext L L' ∧ Room W w' b L' m (N + 1) Rs

theorem named_of {W w : World} {b : Nat} {L : List T} {m : Int} {N : Nat} {Rs : List Res} {t : T} {f : FuncId} {args : Array Value} {r : Int × Int × List T} (h : Room W w b L m N Rs) (hr : r = put m L t) (hm : t.may L.length) (hN : (N : Int) < m)
    (hc : Calls Try.prog f args w fun e w' => e = .returned (.tuple #[.int .i64 r.1, .int .i64 r.2.1]) ∧ Hd W w' (Sto b r.2.2 m :: Rs)) : Calls Try.prog f args w (Named W b L m N Rs t) := by
  subst hr
  obtain ⟨i, L', hp, ha, he, hg, hl⟩ := put_ok (m := m) h.good hm (by have := h.len; omega)
  rw [hp] at hc
  exact hc.mono fun e w' ⟨h1, h2⟩ => ⟨i, L', h1, ha, he, h2, hg, by have := h.len; omega⟩

theorem put_room {W w : World} {b : Nat} {L : List T} {m : Int} {N : Nat} {Rs : List Res} (k : Int) (s : ByteArray) (n a b' c : Int) (h : Room W w b L m N Rs) (hN : (N : Int) < m) (hm : T.may L.length ⟨k, s, n, a, b', c⟩) :
    Calls Try.prog 24 #[.pointer (some ⟨b, 0, none⟩), .agg #[.int .i64 k, .string s, .int .u64 n, .int .i64 a, .int .i64 b', .int .i64 c]] w (Named W b L m N Rs ⟨k, s, n, a, b', c⟩) :=
  named_of h rfl hm hN (put_calls k s n a b' c h.hd)

/-- Get of what is there. -/
theorem get_at {W w : World} {b : Nat} {L : List T} {m : Int} {Rs : List Res} {x : Int} {t : T} (h : Hd W w (Sto b L m :: Rs)) (hx : At L x t) :
    Calls Try.prog 49 #[.pointer (some ⟨b, 0, none⟩), .int .i64 x] w fun e w' => e = .returned (.tuple #[.agg #[.int .i64 t.k, .string t.s, .int .u64 t.n, .int .i64 t.a, .int .i64 t.b, .int .i64 t.c], .bool true]) ∧ Below w.heap.size w w' := by
  obtain ⟨lb, db, mb, lc, dc, hs⟩ := h.sto
  have := get_calls x hs
  rw [hx.getT.1, hx.getT.2] at this
  exact this

theorem len_at {W w : World} {b : Nat} {L : List T} {m : Int} {Rs : List Res} (h : Hd W w (Sto b L m :: Rs)) :
    Calls Try.prog 18 #[.pointer (some ⟨b, 0, none⟩)] w fun e w' => e = .returned (.int .i64 L.length) ∧ w = w' := by
  obtain ⟨lb, db, mb, lc, dc, hs⟩ := h.sto
  exact len_calls' hs

theorem Room.calm {W w : World} {b : Nat} {L : List T} {m : Int} {N : Nat} {Rs : List Res} (h : Room W w b L m N Rs) (x : Later w) : Hd W x.w (Sto b L m :: Rs) := h.hd.still x.below
/-- A call that changes nothing and tells a known name. -/
def Known (W : World) (b : Nat) (L : List T) (m : Int) (N : Nat) (Rs : List Res) (p : Int) (e : Ending) (w' : World) : Prop :=
  e = .returned (.tuple #[.int .i64 p, .int .i64 0]) ∧ Room W w' b L m N Rs

theorem known_of {W w : World} {b : Nat} {L : List T} {m : Int} {N : Nat} {Rs : List Res} {t : T} {p : Int} {f : FuncId} {args : Array Value} {r : Int × Int × List T} (h : Room W w b L m N Rs) (hr : r = put m L t) (hp : At L p t)
    (hc : Calls Try.prog f args w fun e w' => e = .returned (.tuple #[.int .i64 r.1, .int .i64 r.2.1]) ∧ Hd W w' (Sto b r.2.2 m :: Rs)) : Calls Try.prog f args w (Known W b L m N Rs p) := by
  subst hr
  rw [put_known h.good hp] at hc
  exact hc.mono fun e w' ⟨h1, h2⟩ => ⟨h1, h2, h.good, h.len⟩

theorem Room.box {W w : World} {b : Nat} {L : List T} {m : Int} {N : Nat} {Rs : List Res} (h : Room W w b L m N Rs) (o : Obj) : Room W (w.alloc o) b L m N (Blk w.heap.size o :: Rs) := ⟨(h.hd.box o).swap, h.good, h.len⟩

theorem mod_range {d : Int} (n : Int) (h : 1 ≤ d) : 0 ≤ n % d ∧ n % d < d := ⟨Int.emod_nonneg n (by omega), Int.emod_lt_of_pos n (by omega)⟩
theorem beq_same {a b c d : Int} (h : a = b ↔ c = d) : (a == b) = (c == d) := by
  rw [Bool.eq_iff_iff]; simpa using h
theorem at_iff {L : List T} {i j : Int} {t u : T} (g : Good L) (h : At L i t) (k : At L j u) : i = j ↔ t = u :=
  ⟨fun e => by subst e; exact h.same k, fun e => by subst e; exact h.name g k⟩
theorem at_kind {L : List T} {i j : Int} {t u : T} (h : At L i t) (k : At L j u) (hk : t.k ≠ u.k) : (i != j) = true := by
  rw [bne_iff_ne]; intro e; subst e; exact hk (by rw [h.same k])
end Go.Proofs.Ytpcfmafokkffgaa
