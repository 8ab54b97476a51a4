/-
  Walks through the document's package of layer 16: Drop, Get, Same. For every list of entries.
-/
import Derived.Test.YtbaliaodioflfaaSkipL
import Derived.Test.YtbaliaodioflfaaSkipI
namespace Go.Proofs.Ytbaliaodioflfaa
open Go.RowKit

theorem without_step {es : List En} {j : Nat} {f : En} (n : Int) (h : es[j]? = some f) : without (es.take (j + 1)) n = without (es.take j) n ++ (if f.ep = n then [] else [f]) := by
  rw [List.take_add_one, h]
  unfold without
  rw [List.filter_append]
  congr 1
  by_cases hf : f.ep = n <;> simp [hf]
theorem without_le (es : List En) (n : Int) (j : Nat) : (without (es.take j) n).length ≤ j := Nat.le_trans (List.length_filter_le _ _) (by rw [List.length_take]; omega)

set_option maxRecDepth 100000 in
set_option maxHeartbeats 8000000 in
theorem rdrop_calls {es : List En} {ad : Option Addr} {len cap : Nat} {w : World} (n : Int) (h : EnAt w ad es) (hl : len = es.length) (hm : len ≤ 900) :
    Calls Try.prog 51 #[.slice ad len cap, .int .i64 n] w fun e w' => ∃ g c, e = .returned (.slice (some ⟨g, 0, none⟩) (without es n).length c) ∧
      Hd w w' [RowR 98 4 (.slice (some ⟨g, 0, none⟩) (without es n).length c) (without es n).length (ensC (without es n))] := by
  have H := hid h
  have HL := hid hl
  have H0 := hid ((Hd.refl w).row_newS (E := 98) (size := 4))
  clear h hl
  go_enter Try.func51, Try.ntmps51
  go_wp2_with fail
  go_loopw [5, 6] (fun u i wr => ∃ (j m g c : Nat) (R : List En), j ≤ len ∧ i = .int .i64 j ∧ u = .slice (some ⟨g, 0, none⟩) m c ∧ Hid (R = without (es.take j) n) ∧ Hid (m = R.length) ∧ m ≤ j ∧ Hid (Hd w wr [RowR 98 4 (.slice (some ⟨g, 0, none⟩) m c) m (ensC R)])) (fun _ i _ => len - (intOf i).toNat)
  case atStart => exact ⟨0, 0, _, _, [], Nat.zero_le _, rfl, rfl, hid rfl, hid rfl, Nat.le_refl _, H0⟩
  case round =>
    clear H0
    obtain ⟨j, m, g, c, R, hj, rfl, rfl, hR, hmR, hmj, HB⟩ := hrel
    obtain ⟨wo, hwo⟩ : ∃ wo : World, wo = wr := ⟨_, rfl⟩
    rw [← hwo] at HB ⊢
    clear hwo wr
    by_cases hlt : j < len
    · have hd1 : decide ((j : Int) < (len : Int)) = true := by simp; omega
      have hd1' : decide (j < len) = true := by simp; omega
      have hml : j < es.length := by rw [← HL.out]; omega
      obtain ⟨⟨a, k, x, y⟩, he⟩ : ∃ e, es[j]? = some e := ⟨es[j], List.getElem?_eq_getElem hml⟩
      obtain ⟨g2, o, rfl, hc⟩ := (H.out.later HB.out.below) j _ he
      have d0 := hc 0 _ rfl
      have d1 := hc 1 _ rfl
      have d2 := hc 2 _ rfl
      have d3 := hc 3 _ rfl
      rw [Nat.add_zero] at d0
      have hws := without_step n he
      have zm0 : (0 : Int) ≤ (j : Int) := by omega
      have zm1 : (j : Int) < (len : Int) := by omega
      clear hc he hml
      by_cases ha : a = n
      · have e1 : (a == n) = true := by simpa using ha
        have e2 : decide (a = n) = true := by simpa using ha
        have HW := hid hws
        rw [if_pos ha, List.append_nil] at HW
        clear hws ha
        go_wp2_with fail
        go_roundw
        case rel => exact ⟨j + 1, m, g, c, R, by omega, by go_num, rfl, hid (hR.out.trans HW.out.symm), hmR, by omega, HB⟩
        case measure => simp [intOf]; omega
      · have e1 : (a == n) = false := by simpa using ha
        have e2 : decide (a = n) = false := by simpa using ha
        have HW := hid hws
        rw [if_neg ha] at HW
        clear hws ha
        go_wp2_with (at_builtin; refine append_en ⟨a, k, x, y⟩ Try.underlying86 info_RE rfl (.tmp 21) (.tmp 26) rfl rfl HB.out (by rfl) (by rfl) (by omega) ?_; intro g3 c3 w3 h3; have H3 := hid h3; clear h3)
        go_roundw
        case rel => exact ⟨j + 1, m + 1, g3, c3, R ++ [⟨a, k, x, y⟩], by omega, by go_num, rfl, hid (by rw [HW.out, hR.out]), hid (by rw [hmR.out]; simp), by omega, H3⟩
        case measure => simp [intOf]; omega
    · obtain rfl : j = len := by omega
      have hd1 : decide ((j : Int) < (j : Int)) = false := by simp
      have HE : Hid (R = without es n) := hid (by rw [hR.out, List.take_of_length_le (by rw [HL.out]; exact Nat.le_refl _)])
      clear hlt
      go_wp2_with fail
      go_ret
      rw [← HE.out, ← hmR.out]
      exact ⟨g, c, rfl, HB.out⟩

theorem find_step {es : List En} {j : Nat} {f : En} (n : Int) (h : es[j]? = some f) (hno : (es.take j).find? (fun x => decide (x.ep = n)) = none) : (es.take (j + 1)).find? (fun x => decide (x.ep = n)) = if f.ep = n then some f else none := by
  rw [List.take_add_one, h, List.find?_append, hno]
  by_cases hf : f.ep = n <;> simp [hf]
theorem find_take {es : List En} {j : Nat} {f : En} {p : En → Bool} (h : (es.take j).find? p = some f) : es.find? p = some f := by
  rw [← List.take_append_drop j es, List.find?_append, h]; rfl

set_option maxRecDepth 100000 in
set_option maxHeartbeats 8000000 in
theorem rget_calls {es : List En} {ad : Option Addr} {len cap : Nat} {w : World} (n : Int) (h : EnAt w ad es) (hl : len = es.length) (hm : len ≤ 900) :
    Calls Try.prog 56 #[.slice ad len cap, .int .i64 n] w fun e w' => e = .returned (.tuple #[enV (rGet es n).1, .bool (rGet es n).2]) ∧ Below w.heap.size w w' := by
  have H := hid h
  have HL := hid hl
  have H0 := hid (Hd.boxk (o := .cells #[.int .i64 0, .int .i64 0, .int .u64 0, .int .u64 0] 98 (0, 0)) w.heap.size rfl (Hd.refl w))
  clear h hl
  go_enter Try.func56, Try.ntmps56
  go_wp2_with fail
  go_loopw [6] (fun i wr => ∃ (j : Nat), j ≤ len ∧ i = .int .i64 j ∧ Hid ((es.take j).find? (fun x => decide (x.ep = n)) = none) ∧ Hid (Hd w wr [Blk w.heap.size (.cells #[.int .i64 0, .int .i64 0, .int .u64 0, .int .u64 0] 98 (0, 0))])) (fun i _ => len - (intOf i).toNat)
  case atStart => exact ⟨0, Nat.zero_le _, rfl, hid rfl, H0⟩
  case round =>
    clear H0
    obtain ⟨j, hj, rfl, hF, HB⟩ := hrel
    obtain ⟨wo, hwo⟩ : ∃ wo : World, wo = wr := ⟨_, rfl⟩
    rw [← hwo] at HB ⊢
    clear hwo wr
    have hk := HB.out.blk
    have r0 := (cell_of_heap hk 0).trans (show _ = some (.int .i64 0) from rfl)
    have r1 := (cell_of_heap hk 1).trans (show _ = some (.int .i64 0) from rfl)
    have r2 := (cell_of_heap hk 2).trans (show _ = some (.int .u64 0) from rfl)
    have r3 := (cell_of_heap hk 3).trans (show _ = some (.int .u64 0) from rfl)
    have rf := frozen_of_heap hk
    have rl := (Array.getElem?_eq_some_iff.1 hk).1
    clear hk
    by_cases hlt : j < len
    · have hd1 : decide ((j : Int) < (len : Int)) = true := by simp; omega
      have hd1' : decide (j < len) = true := by simp; omega
      have hml : j < es.length := by rw [← HL.out]; omega
      obtain ⟨⟨a, k, x, y⟩, he⟩ : ∃ e, es[j]? = some e := ⟨es[j], List.getElem?_eq_getElem hml⟩
      obtain ⟨g2, o, rfl, hc⟩ := (H.out.later HB.out.below) j _ he
      have d0 := hc 0 _ rfl
      have d1 := hc 1 _ rfl
      have d2 := hc 2 _ rfl
      have d3 := hc 3 _ rfl
      rw [Nat.add_zero] at d0
      have hws := find_step n he hF.out
      have zm0 : (0 : Int) ≤ (j : Int) := by omega
      have zm1 : (j : Int) < (len : Int) := by omega
      clear hc he hml
      by_cases ha : a = n
      · have e1 : (a == n) = true := by simpa using ha
        have e2 : decide (a = n) = true := by simpa using ha
        have HW : Hid (rGet es n = (⟨a, k, x, y⟩, true)) := hid (by unfold rGet; rw [find_take (hws.trans (if_pos ha))])
        clear hws ha
        go_wp2_with fail
        rw [HW.out]
        refine bodyPost_ret (v := .tuple #[.agg #[.int .i64 a, .int .i64 k, .int .u64 x, .int .u64 y], .bool true]) (by simp [results, Try.results56, go_sem, r0, r1, r2, r3]) rfl ⟨rfl, ?_⟩
        exact ((((HB.out.set 0 _).set 1 _).set 2 _).set 3 _).below
      · have e1 : (a == n) = false := by simpa using ha
        have e2 : decide (a = n) = false := by simpa using ha
        have HW := hid (hws.trans (if_neg ha))
        clear hws ha
        go_wp2_with fail
        go_roundw
        case rel => exact ⟨j + 1, by omega, by go_num, HW, HB⟩
        case measure => simp [intOf]; omega
    · obtain rfl : j = len := by omega
      have hd1 : decide ((j : Int) < (j : Int)) = false := by simp
      have HW : Hid (rGet es n = (En.zero, false)) := hid (by
        have := hF.out
        rw [List.take_of_length_le (by rw [HL.out]; exact Nat.le_refl _)] at this
        unfold rGet; rw [this])
      clear hlt
      go_wp2_with fail
      rw [HW.out]
      refine bodyPost_ret (v := .tuple #[.agg #[.int .i64 0, .int .i64 0, .int .u64 0, .int .u64 0], .bool false]) (by simp [results, Try.results56, go_sem, r0, r1, r2, r3]) rfl ⟨rfl, ?_⟩
      exact ((((HB.out.set 0 _).set 1 _).set 2 _).set 3 _).below

theorem take_eq_step {es fs : List En} {j : Nat} {a b : En} (h : es.take j = fs.take j) (ha : es[j]? = some a) (hb : fs[j]? = some b) (e : a = b) : es.take (j + 1) = fs.take (j + 1) := by
  rw [List.take_add_one, List.take_add_one, h, ha, hb, e]

set_option maxRecDepth 100000 in
set_option maxHeartbeats 8000000 in
theorem rsame_calls {es fs : List En} {ad bd : Option Addr} {la lb ca cb : Nat} {w : World} (h : EnAt w ad es) (h2 : EnAt w bd fs) (hl : la = es.length) (hl2 : lb = fs.length) (hm : la ≤ 900) (hm2 : lb ≤ 900) :
    Calls Try.prog 57 #[.slice ad la ca, .slice bd lb cb] w fun e w' => e = .returned (.bool (decide (es = fs))) ∧ Below w.heap.size w w' := by
  have H := hid h
  have H2 := hid h2
  have HL := hid hl
  have HL2 := hid hl2
  clear h hl h2 hl2
  go_enter Try.func57, Try.ntmps57
  by_cases hlen : la = lb
  · subst hlen
    have q1 : ((la : Int) == (la : Int)) = true := by simp
    go_wp2_with fail
    go_loopw [5] (fun i wr => ∃ (j : Nat), j ≤ la ∧ i = .int .i64 j ∧ Hid (es.take j = fs.take j) ∧ Hid (Below w.heap.size w wr)) (fun i _ => la - (intOf i).toNat)
    case atStart => exact ⟨0, Nat.zero_le _, rfl, hid rfl, hid (Below.refl _ _)⟩
    case round =>
      obtain ⟨j, hj, rfl, hF, HB⟩ := hrel
      obtain ⟨wo, hwo⟩ : ∃ wo : World, wo = wr := ⟨_, rfl⟩
      rw [← hwo] at HB ⊢
      clear hwo wr
      by_cases hlt : j < la
      · have hd1 : decide ((j : Int) < (la : Int)) = true := by simp; omega
        have hd1' : decide (j < la) = true := by simp; omega
        obtain ⟨⟨a, k, x, y⟩, he⟩ : ∃ e, es[j]? = some e := ⟨es[j]'(by rw [← HL.out]; omega), List.getElem?_eq_getElem _⟩
        obtain ⟨⟨a', k', x', y'⟩, he'⟩ : ∃ e, fs[j]? = some e := ⟨fs[j]'(by rw [← HL2.out]; omega), List.getElem?_eq_getElem _⟩
        obtain ⟨g, o, rfl, hc⟩ := (H.out.later HB.out) j _ he
        obtain ⟨g', o', rfl, hc'⟩ := (H2.out.later HB.out) j _ he'
        have d0 := hc 0 _ rfl
        have d1 := hc 1 _ rfl
        have d2 := hc 2 _ rfl
        have d3 := hc 3 _ rfl
        rw [Nat.add_zero] at d0
        have f0 := hc' 0 _ rfl
        have f1 := hc' 1 _ rfl
        have f2 := hc' 2 _ rfl
        have f3 := hc' 3 _ rfl
        rw [Nat.add_zero] at f0
        have zm0 : (0 : Int) ≤ (j : Int) := by omega
        have zm1 : (j : Int) < (la : Int) := by omega
        have mixed : Try.prog.follows .mixedOrders = true := by kernel_rfl
        have hne := neq_RE ⟨a, k, x, y⟩ ⟨a', k', x', y'⟩
        have He := hid he
        have He' := hid he'
        clear hc hc' he he'
        by_cases ha : (⟨a, k, x, y⟩ : En) = ⟨a', k', x', y'⟩
        · rw [show decide ((⟨a, k, x, y⟩ : En) = ⟨a', k', x', y'⟩) = true from decide_eq_true ha] at hne
          dsimp only at hne
          have HS := hid (take_eq_step hF.out He.out He'.out ha)
          clear ha
          go_wp2_with fail
          go_region
          go_wp2_with fail
          go_roundw
          case rel => exact ⟨j + 1, by omega, by go_num, HS, hid (HB.out.drew)⟩
          case measure => simp [intOf]; omega
        · rw [show decide ((⟨a, k, x, y⟩ : En) = ⟨a', k', x', y'⟩) = false from decide_eq_false ha] at hne
          dsimp only at hne
          have HS : Hid (decide (es = fs) = false) := hid (decide_eq_false fun e => ha (by subst e; have := He.out.symm.trans He'.out; simpa using this))
          clear ha
          go_wp2_with fail
          go_region
          go_wp2_with fail
          go_ret
          exact ⟨by rw [HS.out]; rfl, HB.out.drew⟩
      · obtain rfl : j = la := by omega
        have hd1 : decide ((j : Int) < (j : Int)) = false := by simp
        have HS : Hid (decide (es = fs) = true) := hid (decide_eq_true (by
          have := hF.out
          rwa [List.take_of_length_le (by rw [HL.out]; exact Nat.le_refl _), List.take_of_length_le (by rw [HL2.out]; exact Nat.le_refl _)] at this))
        clear hlt
        go_wp2_with fail
        go_ret
        exact ⟨by rw [HS.out]; rfl, HB.out⟩
  · have q1 : ((la : Int) == (lb : Int)) = false := by simp; omega
    have q2 : (la == lb) = false := by simp; omega
    have q3 : decide ((la : Int) = (lb : Int)) = false := by simp; omega
    have HS : Hid (decide (es = fs) = false) := hid (decide_eq_false fun e => hlen (by rw [HL.out, HL2.out, e]))
    go_wp2_with fail
    go_ret
    exact ⟨by rw [HS.out]; rfl, Below.refl _ _⟩
end Go.Proofs.Ytbaliaodioflfaa
