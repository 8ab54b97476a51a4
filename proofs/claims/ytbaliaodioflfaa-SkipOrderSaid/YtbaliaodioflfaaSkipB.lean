/-
  Walks through layer 16: what is got; a copy of one's own. For every cache that rises.
-/
import Derived.Test.YtbaliaodioflfaaSkipA
import Derived.Test.YtbaliaodioflfaaOwn
import Derived.Laws.AppendOwnNone
namespace Go.Proofs.Ytbaliaodioflfaa
open Go.RowKit

/-- A cache, as a value. -/
structure CaAt (w : World) (v : Value) (es : List En) : Prop where
  ex : ∃ ad cap, v = .slice ad es.length cap ∧ EnAt w ad es ∧ (ad = none → cap = 0 ∧ es = [])
theorem CaAt.later {w w' : World} {v : Value} {es : List En} (h : CaAt w v es) (hb : Below w.heap.size w w') : CaAt w' v es := by
  obtain ⟨ad, cap, rfl, h1, h2⟩ := h.ex
  exact ⟨ad, cap, rfl, h1.later hb, h2⟩
theorem CaAt.nil {w : World} : CaAt w (.slice none 0 0) [] := ⟨none, 0, rfl, EnAt.nil, fun _ => ⟨rfl, rfl⟩⟩

def enV (e : En) : Value := .agg #[.int .i64 e.ep, .int .i64 e.key, .int .u64 e.nx, .int .u64 e.bt]

theorem isAt_some {es : List En} {n : Int} (h : isAt es n = true) : ∃ e, es[lowOf n es]? = some e ∧ e.ep = n := by
  have := of_decide_eq_true h
  cases hq : es[lowOf n es]? with
  | none => rw [hq] at this; cases this
  | some e => rw [hq] at this; exact ⟨e, rfl, by simpa using this⟩

set_option maxRecDepth 100000 in
set_option maxHeartbeats 4000000 in
theorem get16_calls {es : List En} {v : Value} {w : World} (n : Int) (hr : Rises es) (h : CaAt w v es) (hm : es.length ≤ 1000) :
    Calls Try.prog 55 #[.agg #[v], .int .i64 n] w fun e w' => e = .returned (.tuple #[enV (kGet es n).1, .bool (kGet es n).2]) ∧ Below w.heap.size w w' := by
  obtain ⟨ad, cap, rfl, hat, _⟩ := h.ex
  have HE := hid hat
  have HR := hid hr
  clear hat hr h
  go_enter Try.func55, Try.ntmps55
  go_wp2_with fail
  have h0 := ((Hd.refl w).box (.cells #[.slice ad es.length cap] 85 (0, 0))).box (.cells #[.int .i64 0, .int .i64 0, .int .u64 0, .int .u64 0] 91 (0, 0))
  rw [show (w.alloc (.cells #[.slice ad es.length cap] 85 (0, 0))).heap.size = w.heap.size + 1 from by simp] at h0
  have H0 := hid h0
  clear h0
  refine (place_calls n HR.out (HE.out.later H0.out.below) rfl hm).mono ?_
  rintro e w1 ⟨rfl, hb⟩
  have H := hid (H0.out.still hb)
  have HE1 := hid (HE.out.later H.out.below)
  clear hb H0
  have hk := H.out.blk
  have r0 := (cell_of_heap hk 0).trans (show _ = some (.int .i64 0) from rfl)
  have r1 := (cell_of_heap hk 1).trans (show _ = some (.int .i64 0) from rfl)
  have r2 := (cell_of_heap hk 2).trans (show _ = some (.int .u64 0) from rfl)
  have r3 := (cell_of_heap hk 3).trans (show _ = some (.int .u64 0) from rfl)
  have rf := frozen_of_heap hk
  have rl := (Array.getElem?_eq_some_iff.1 hk).1
  have hc := H.out.drop.blk
  have c0 := (cell_of_heap hc 0).trans (show _ = some (.slice ad es.length cap) from rfl)
  clear hk hc
  by_cases his : isAt es n = true
  · obtain ⟨⟨a, k, x, y⟩, he, hep⟩ := isAt_some his
    have Hep := hid hep
    clear hep
    obtain ⟨g, o, rfl, hcl⟩ := HE1.out _ _ he
    have d0 := hcl 0 _ rfl
    have d1 := hcl 1 _ rfl
    have d2 := hcl 2 _ rfl
    have d3 := hcl 3 _ rfl
    rw [Nat.add_zero] at d0
    have zl : lowOf n es < es.length := (List.getElem?_eq_some_iff.1 he).1
    have EK : Hid (kGet es n = (⟨a, k, x, y⟩, true)) := hid (by unfold kGet; rw [if_pos his, List.getD_eq_getElem?_getD, he]; rfl)
    rw [his]
    generalize lowOf n es = q at *
    have zq0 : (0 : Int) ≤ (q : Int) := by omega
    have zq1 : (q : Int) < (es.length : Int) := by omega
    clear hcl he
    go_wp2_with fail
    rw [EK.out]
    refine bodyPost_ret (v := .tuple #[.agg #[.int .i64 a, .int .i64 k, .int .u64 x, .int .u64 y], .bool true]) (by simp [results, Try.results55, go_sem, r0, r1, r2, r3]) rfl ⟨rfl, ?_⟩
    exact ((((H.out.set 0 _).set 1 _).set 2 _).set 3 _).below
  · have hif : isAt es n = false := by simpa using his
    have EK : Hid (kGet es n = (En.zero, false)) := hid (by unfold kGet; rw [if_neg his])
    rw [hif]
    clear his
    go_wp2_with fail
    rw [EK.out]
    refine bodyPost_ret (v := .tuple #[.agg #[.int .i64 0, .int .i64 0, .int .u64 0, .int .u64 0], .bool false]) (by simp [results, Try.results55, go_sem, r0, r1, r2, r3]) rfl ⟨rfl, ?_⟩
    exact ((((H.out.set 0 _).set 1 _).set 2 _).set 3 _).below
end Go.Proofs.Ytbaliaodioflfaa
