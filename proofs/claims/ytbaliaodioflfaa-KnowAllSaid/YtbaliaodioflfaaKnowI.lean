/-
  Walks through the document's package of layer 8: in, of. For every list of names and every store.
-/
import Derived.Test.YtbaliaodioflfaaRefC
import Derived.Test.YtbaliaodioflfaaLawA
import Derived.Test.YtbaliaodioflfaaKnowP
namespace Go.Proofs.Ytbaliaodioflfaa
open Go.RowKit

theorem IntsAt.cell {w : World} {ad : Option Addr} {ks : List Int} (h : IntsAt w ad ks) (h1 : 0 < ks.length) : ∃ g o, ad = some ⟨g, o, none⟩ ∧ ∀ (j : Nat) (z : Int), ks[j]? = some z → w.cell? ⟨g, o + j, none⟩ = some (.int .i64 z) := by
  rcases h with h | ⟨g, o, ha, hc⟩
  · rw [h] at h1; simp at h1
  · refine ⟨g, o, ha, fun j z hz => ?_⟩
    have hj := (List.getElem?_eq_some_iff.1 hz).1
    have := hc j hj
    rwa [List.getD_eq_getElem?_getD, hz] at this

/-- Is x among the first so many? -/
theorem take_mem {ks : List Int} {j : Nat} {z x : Int} (hz : ks[j]? = some z) (hne : z ≠ x) (h : x ∉ ks.take j) : x ∉ ks.take (j + 1) := by
  rw [List.take_add_one, hz]
  simp only [Option.toList_some, List.mem_append, List.mem_singleton, not_or]
  exact ⟨h, fun e => hne e.symm⟩

set_option maxHeartbeats 4000000 in
theorem in8_calls {ks : List Int} {ad : Option Addr} {n c : Nat} {w : World} (x : Int) (h : IntsAt w ad ks) (e : n = ks.length) (hm : n ≤ 4611686018427387904) :
    Calls Try.prog 82 #[.slice ad n c, .int .i64 x] w fun e w' => e = .returned (.bool (decide (x ∈ ks))) ∧ w = w' := by
  have E := hid e
  have H := hid h
  clear e h
  go_enter Try.func82, Try.ntmps82
  go_wp2_with fail
  go_loopw [5] (fun i wr => ∃ j : Nat, j ≤ n ∧ i = .int .i64 j ∧ w = wr ∧ Hid (x ∉ ks.take j)) (fun i _ => n - (intOf i).toNat)
  case atStart => exact ⟨0, Nat.zero_le _, rfl, rfl, hid (by simp)⟩
  case round =>
    obtain ⟨j, hj, rfl, rfl, hno⟩ := hrel
    by_cases hlt : j < n
    · have hd1 : decide ((j : Int) < (n : Int)) = true := by simp; omega
      have hd1' : decide (j < n) = true := by simp; omega
      have hjl : j < ks.length := by rw [← E.out]; exact hlt
      obtain ⟨z, hz⟩ : ∃ z, ks[j]? = some z := ⟨ks[j], List.getElem?_eq_getElem hjl⟩
      obtain ⟨g, o, rfl, hc⟩ := H.out.cell (by omega)
      have c0 := hc j z hz
      have Hz := hid hz
      have zj0 : (0 : Int) ≤ (j : Int) := by omega
      have zj1 : (j : Int) < (n : Int) := by omega
      clear hc hz hjl
      by_cases hx : z = x
      · have e1 : (z == x) = true := by simpa using hx
        have Hin : Hid (decide (x ∈ ks) = true) := hid (decide_eq_true (by rw [← hx]; exact List.mem_of_getElem? Hz.out))
        clear hx
        go_wp2_with fail
        go_ret
        exact ⟨by rw [Hin.out]; rfl, rfl⟩
      · have e1 : (z == x) = false := by simpa using hx
        have Hno := hid (take_mem Hz.out hx hno.out)
        clear hx hno
        go_wp2_with fail
        go_roundw
        case rel => exact ⟨j + 1, by omega, by go_num, trivial, Hno⟩
        case measure => simp [intOf]; omega
    · have hd1 : decide ((j : Int) < (n : Int)) = false := by simp; omega
      have hd1' : decide (j < n) = false := by simp; omega
      have Hno : Hid (decide (x ∈ ks) = false) := hid (decide_eq_false (by have := hno.out; rwa [List.take_of_length_le (by rw [← E.out]; omega)] at this))
      clear hlt
      go_wp2_with fail
      go_ret
      exact ⟨by rw [Hno.out]; rfl, rfl⟩

/-- Can a term of a kind, with these parts, be made? -/
def ofB (L : List T) (ks : List Int) (kind a b : Int) : Bool := ks.any fun y => ((L.getD (y - 1).toNat zeroT).k == kind && (L.getD (y - 1).toNat zeroT).a == a) && (L.getD (y - 1).toNat zeroT).b == b
theorem any_step {ks : List Int} {p : Int → Bool} {j : Nat} {z : Int} (hz : ks[j]? = some z) (h : (ks.take j).any p = false) (hp : p z = false) : (ks.take (j + 1)).any p = false := by
  rw [List.take_add_one, hz]
  simp only [Option.toList_some, List.any_append, h, List.any_cons, List.any_nil, hp, Bool.or_self]

set_option maxRecDepth 100000 in
set_option maxHeartbeats 8000000 in
theorem of8_calls {ks : List Int} {ad ra : Option Addr} {n c rc b : Nat} {L : List T} {m : Int} {w : World} (kind pa pb : Int) (h : IntsAt w ad ks) (hs : RStoAt w b L m ra rc) (hin : ∀ x ∈ ks, 1 ≤ x ∧ x ≤ L.length) (e : n = ks.length) (hm : n ≤ 4611686018427387904) :
    Calls Try.prog 103 #[.pointer (some ⟨b, 0, none⟩), .slice ad n c, .int .i64 kind, .int .i64 pa, .int .i64 pb] w fun e w' => e = .returned (.bool (ofB L ks kind pa pb)) ∧ Below w.heap.size w w' := by
  have E := hid e
  have H := hid h
  have HS := hid hs
  have HI := hid hin
  have hmx := hs.ok.m1
  have hlx := hs.ok.len
  clear e h hs hin
  go_enter Try.func103, Try.ntmps103
  go_wp2_with fail
  go_loopw [11] (fun i wr => ∃ j : Nat, j ≤ n ∧ i = .int .i64 j ∧ Below w.heap.size w wr ∧ Hid ((ks.take j).any (fun y => ((L.getD (y - 1).toNat zeroT).k == kind && (L.getD (y - 1).toNat zeroT).a == pa) && (L.getD (y - 1).toNat zeroT).b == pb) = false)) (fun i _ => n - (intOf i).toNat)
  case atStart => exact ⟨0, Nat.zero_le _, rfl, Below.refl _ _, hid (by simp)⟩
  case round =>
    obtain ⟨j, hj, rfl, hb, hno⟩ := hrel
    obtain ⟨wo, hwo⟩ : ∃ wo : World, wo = wr := ⟨_, rfl⟩
    rw [← hwo] at hb ⊢
    clear hwo wr
    by_cases hlt : j < n
    · have hd1 : decide ((j : Int) < (n : Int)) = true := by simp; omega
      have hd1' : decide (j < n) = true := by simp; omega
      have hjl : j < ks.length := by rw [← E.out]; exact hlt
      obtain ⟨y, hy⟩ : ∃ z, ks[j]? = some z := ⟨ks[j], List.getElem?_eq_getElem hjl⟩
      have hy2 := HI.out y (List.mem_of_getElem? hy)
      obtain ⟨q, rfl⟩ : ∃ q : Nat, y = (q : Int) + 1 := ⟨(y - 1).toNat, by omega⟩
      obtain ⟨g, o, rfl, hc⟩ := (H.out.later hb).cell (by omega)
      have c0 := hc j _ hy
      have Hy := hid hy
      have zj0 : (0 : Int) ≤ (j : Int) := by omega
      have zj1 : (j : Int) < (n : Int) := by omega
      have zq0 : (0 : Int) ≤ (q : Int) := by omega
      have zq1 : (q : Int) < (L.length : Int) := by omega
      have zq2 : q < L.length := by omega
      have hs := HS.out.later hb
      obtain ⟨⟨tk, ts, tn, ta, tb, tc⟩, ht⟩ : ∃ t, L[q]? = some t := ⟨L[q], List.getElem?_eq_getElem zq2⟩
      have hgd : L.getD (((q : Int) + 1 - 1).toNat) zeroT = ⟨tk, ts, tn, ta, tb, tc⟩ := by rw [show ((q : Int) + 1 - 1).toNat = q by omega, List.getD_eq_getElem?_getD, ht]; rfl
      have Hgd := hid hgd
      obtain ⟨rg, rfl, rlt, hcl⟩ := hs.cl q _ ht
      have s0 := hs.c0
      have d0 := hcl 0 _ rfl
      have d1 := hcl 1 _ rfl
      have d2 := hcl 2 _ rfl
      have d3 := hcl 3 _ rfl
      have d4 := hcl 4 _ rfl
      have d5 := hcl 5 _ rfl
      rw [Nat.add_zero] at d0
      have glt := World.block_lt_of_cell? wo _ c0
      have blt := World.block_lt_of_cell? wo _ s0
      have hw : IntKind.i64.wrap (q : Int) = q := IntWalk.i64_in _ (by omega)
      clear hs hcl hc hy ht hgd hy2 hjl
      go_wp2_with fail
      go_region
      have hb2 : Below w.heap.size w ((wo.alloc (.cells #[.int .i64 tk, .string ts, .int .u64 tn, .int .i64 ta, .int .i64 tb, .int .i64 tc] 122 (0, 0))).drew) := (hb.alloc hb.size _).drew
      have HB := hid hb2
      clear hb hb2 c0 s0 d0 d1 d2 d3 d4 d5 hw glt blt rlt
      have hall : ((tk == kind && ta == pa) && tb == pb) = true ∨ ((tk == kind && ta == pa) && tb == pb) = false := by cases ((tk == kind && ta == pa) && tb == pb) <;> simp
      rcases hall with hall | hall
      · have Hyes : Hid (ofB L ks kind pa pb = true) := hid (List.any_eq_true.2 ⟨_, List.mem_of_getElem? Hy.out, by rw [Hgd.out]; exact hall⟩)
        simp only [Bool.and_eq_true] at hall
        obtain ⟨⟨f1, f2⟩, f3⟩ := hall
        go_wp2_with fail
        go_ret
        exact ⟨by rw [Hyes.out]; rfl, HB.out⟩
      · have Hno := hid (any_step (p := fun y => ((L.getD (y - 1).toNat zeroT).k == kind && (L.getD (y - 1).toNat zeroT).a == pa) && (L.getD (y - 1).toNat zeroT).b == pb) Hy.out hno.out (by rw [Hgd.out]; exact hall))
        have hex : (tk == kind) = false ∨ ((tk == kind) = true ∧ (ta == pa) = false) ∨ ((tk == kind) = true ∧ (ta == pa) = true ∧ (tb == pb) = false) := by
          revert hall
          cases (tk == kind) <;> cases (ta == pa) <;> cases (tb == pb) <;> simp
        clear hall hno Hy Hgd
        rcases hex with f1 | ⟨f1, f2⟩ | ⟨f1, f2, f3⟩
        all_goals
          go_wp2_with fail
          go_roundw
          case rel => exact ⟨j + 1, by omega, by go_num, HB.out, Hno⟩
          case measure => simp [intOf]; omega
    · have hd1 : decide ((j : Int) < (n : Int)) = false := by simp; omega
      have hd1' : decide (j < n) = false := by simp; omega
      have Hno : Hid (ofB L ks kind pa pb = false) := hid (by have := hno.out; rwa [List.take_of_length_le (by rw [← E.out]; omega)] at this)
      clear hlt
      go_wp2_with fail
      go_ret
      exact ⟨by rw [Hno.out]; rfl, hb⟩
end Go.Proofs.Ytbaliaodioflfaa
