/-
  Puts that find room, as the laws of layer 8 use them; a written list that may grow. For every store with room.
-/
import Derived.Test.YtbaliaodioflfaaKnowX
import Derived.Test.YtbaliaodioflfaaDh
import Derived.Test.YtbaliaodioflfaaKem
import Derived.Test.YtbaliaodioflfaaOwn
namespace Go.Proofs.Ytbaliaodioflfaa
open Go.RowKit

/-- What a call answers that puts one term. -/
def Put1 (W : World) (b : Nat) (L : List T) (m : Int) (Rs : List Res) (t : T) (e : Ending) (w' : World) : Prop := ∃ p L2, e = .returned (.tuple #[.int .i64 p, .int .i64 0]) ∧ PutAns L t p L2 ∧ Good L2 ∧ Hd W w' (Sto b L2 m :: Rs)

section
variable {W w : World} {b : Nat} {L : List T} {m : Int} {Rs : List Res}
theorem put1_of {f : FuncId} {args : Array Value} {t : T} {X : Int × Int × List T} (e : X = put m L t) (g : Good L) (hm : t.may L.length) (hr : (L.length : Int) < m)
    (hc : Calls Try.prog f args w fun e w' => e = .returned (.tuple #[.int .i64 X.1, .int .i64 X.2.1]) ∧ Hd W w' (Sto b X.2.2 m :: Rs)) : Calls Try.prog f args w (Put1 W b L m Rs t) := by
  obtain ⟨p, L2, h1, h2, h3⟩ := putAns_of g hm hr
  subst e
  rw [h1] at hc
  refine hc.mono ?_
  rintro e w' ⟨rfl, h⟩
  exact ⟨p, L2, rfl, h2, h3, h⟩
theorem put1 (k : Int) (s : ByteArray) (n a b' c : Int) (g : Good L) (hm : T.may L.length ⟨k, s, n, a, b', c⟩) (hr : (L.length : Int) < m) (h : Hd W w (Sto b L m :: Rs)) :
    Calls Try.prog 47 #[.pointer (some ⟨b, 0, none⟩), .agg #[.int .i64 k, .string s, .int .u64 n, .int .i64 a, .int .i64 b', .int .i64 c]] w (Put1 W b L m Rs ⟨k, s, n, a, b', c⟩) := put1_of rfl g hm hr (put_calls k s n a b' c h)
theorem pub1 {x : Int} (g : Good L) (hx : In L x) (hr : (L.length : Int) < m) (h : Hd W w (Sto b L m :: Rs)) :
    Calls Try.prog 48 #[.pointer (some ⟨b, 0, none⟩), .int .i64 x] w (Put1 W b L m Rs (pubT x)) := put1_of rfl g (may_pub.2 ⟨hx.lo, hx.hi⟩) hr (pub_calls x h)
theorem agree1 {x y a : Int} (g : Good L) (hx : In L x) (hy : At L y (pubT a)) (hr : (L.length : Int) < m) (h : Hd W w (Sto b L m :: Rs)) :
    Calls Try.prog 49 #[.pointer (some ⟨b, 0, none⟩), .int .i64 x, .int .i64 y] w (Put1 W b L m Rs (shaT (min x a) (max x a))) := by
  have ha := hy.part g (p := a) (by simp [pubT, T.parts, many])
  have e : agree m L x y = put m L (shaT (min x a) (max x a)) := by unfold agree; rw [if_pos ⟨hx.getB, by rw [hy.getT.1]; rfl⟩, hy.getT.1]; rfl
  refine put1_of e g (may_sha.2 ?_) hr (agree_calls x y h)
  have := hx.lo; have := hx.hi; have := hy.hi
  omega
theorem kpub1 {x : Int} (g : Good L) (hx : In L x) (hr : (L.length : Int) < m) (h : Hd W w (Sto b L m :: Rs)) :
    Calls Try.prog 62 #[.pointer (some ⟨b, 0, none⟩), .int .i64 x] w (Put1 W b L m Rs (kpuT x)) := put1_of rfl g (may_kpu.2 ⟨hx.lo, hx.hi⟩) hr (kpub_calls x h)
theorem wrap1 {p d k : Int} (g : Good L) (hp : At L p (kpuT k)) (hd : In L d) (hr : (L.length : Int) + 1 < m) (h : Hd W w (Sto b L m :: Rs)) :
    Calls Try.prog 63 #[.pointer (some ⟨b, 0, none⟩), .int .i64 p, .int .i64 d] w fun e w' => ∃ x y L2 L3, e = .returned (.tuple #[.int .i64 x, .int .i64 y, .int .i64 0]) ∧ PutAns L (boxT k d) x L2 ∧ PutAns L2 (kemT k d) y L3 ∧ Good L3 ∧ Hd W w' (Sto b L3 m :: Rs) := by
  have hk := hp.part g (p := k) (by simp [kpuT, T.parts, many])
  have h1 := hd.lo; have h2 := hd.hi; have h3 := hp.hi
  have hk1 : (getT L p).k = 5 := by rw [hp.getT.1]; rfl
  have hk2 : (getT L p).a = k := by rw [hp.getT.1]; rfl
  obtain ⟨x, L2, e1, q1, g1⟩ := putAns_of (m := m) (t := boxT k d) g (may_box.2 (by omega)) (by omega)
  have l1 := q1.len
  obtain ⟨y, L3, e2, q2, g2⟩ := putAns_of (m := m) (t := kemT k d) g1 (may_kem.2 (by omega)) (by omega)
  refine (wrap_calls p d h).mono ?_
  have e : wrap4 m L p d = (x, y, 0, L3) := by
    unfold wrap4
    rw [if_pos ⟨hk1, hd.getB⟩, hk2, e1]
    dsimp only
    rw [if_pos rfl, e2]
    rfl
  rw [e]
  rintro e w' ⟨rfl, h⟩
  exact ⟨x, y, L2, L3, rfl, q1, q2, g2, h⟩

/-- A written list of one number, that may grow. -/
theorem Hd.row_one {E : TypeId} {v : Value} (h : Hd W w Rs) : Hd W (w.alloc (.cells #[v] E (0, 0))) (RowR E 1 (.slice (some ⟨w.heap.size, 0, none⟩) 1 1) 1 [v] :: Rs) := by
  refine h.add ((Below.refl _ _).alloc (Nat.le_refl _) _) (fun j => if j = w.heap.size then some (.cells #[v] E (0, 0)) else none) ⟨rfl, .inr ⟨w.heap.size, 1, #[v], rfl, Nat.le_refl _, by decide, rfl, rfl, rfl⟩⟩ (fun k o hk => ?_) (fun k hk => ?_)
  · dsimp only at hk
    split at hk
    · rename_i e1; subst e1; rw [heap_at rfl]; exact hk
    · cases hk
  · split at hk
    · omega
    · exact absurd rfl hk
end
end Go.Proofs.Ytbaliaodioflfaa
