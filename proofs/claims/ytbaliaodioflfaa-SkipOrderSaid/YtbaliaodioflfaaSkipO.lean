/-
  Walks through layer 16 and the document's package: Keys; One, Refs. For every cache and every list.
-/
import Derived.Test.YtbaliaodioflfaaSkipN
namespace Go.Proofs.Ytbaliaodioflfaa
open Go.RowKit

theorem info_I : ∃ i, Try.prog.info? 3 = some i ∧ i.zero = some (.int .i64 0) ∧ i.size = 1 ∧ i.bytes = 8 := info_parts (by kernel_rfl)

/-- A list of numbers, as a value. -/
structure NsAt (w : World) (v : Value) (ks : List Int) : Prop where
  ex : ∃ ad cap, v = .slice ad ks.length cap ∧ IntsAt w ad ks
theorem NsAt.later {w w' : World} {v : Value} {ks : List Int} (h : NsAt w v ks) (hb : Below w.heap.size w w') : NsAt w' v ks := by
  obtain ⟨ad, cap, rfl, h1⟩ := h.ex
  exact ⟨ad, cap, rfl, h1.later hb⟩
theorem Hd.row_ns {W w : World} {n : Nat} {v : Value} {ks : List Int} {Rs : List Res} (hn : n = ks.length) (h : Hd W w (RowR 3 1 v n (nums .i64 ks) :: Rs)) : NsAt w v ks := by
  subst hn
  obtain ⟨hl, ⟨rfl, h0⟩ | ⟨g, cap, cur, rfl, _, hc, h3, h4, h5, h6⟩⟩ := h.owns
  · have : ks = [] := List.eq_nil_of_length_eq_zero h0
    subst this
    exact ⟨none, 0, rfl, .inl rfl⟩
  · refine ⟨_, cap, rfl, .inr ⟨g, 0, rfl, fun j hj => ?_⟩⟩
    rw [cell_of_heap hc, Nat.zero_add, ← Array.getElem?_toList]
    exact get_of_take h6 (nums_get hj)

theorem keys_step {es : List En} {j : Nat} {f : En} (h : es[j]? = some f) : kKeys (es.take (j + 1)) = kKeys (es.take j) ++ [f.key] := by
  rw [List.take_add_one, h]; simp [kKeys]

set_option maxHeartbeats 1000000 in
theorem key_calls (a k x y : Int) (w : World) :
    Calls Try.prog 93 #[.agg #[.int .i64 a, .int .i64 k, .int .u64 x, .int .u64 y]] w fun e w' => e = .returned (.int .i64 k) ∧ Below w.heap.size w w' := by
  go_enter Try.func93, Try.ntmps93
  go_wp2_with fail
  go_ret
  exact ⟨rfl, (Below.refl _ _).alloc (Nat.le_refl _) _⟩

set_option maxRecDepth 100000 in
set_option maxHeartbeats 8000000 in
theorem mapped_calls {es : List En} {ad : Option Addr} {len cap : Nat} {w : World} (h : EnAt w ad es) (hl : len = es.length) (hm : len ≤ 900) :
    Calls Try.prog 92 #[.slice ad len cap, .func (.func 93) #[] #[]] w fun e w' => ∃ u, e = .returned u ∧ Hd w w' [RowR 3 1 u len (nums .i64 (kKeys es))] := by
  have H := hid h
  have HL := hid hl
  have H0 := hid ((Hd.refl w).row_nilS (E := 3) (size := 1))
  obtain ⟨i0, hi0, hz0, hs0, hy0⟩ := info_I
  have Hi0 := hid hi0
  have Hz0 := hid hz0
  have Hs0 := hid hs0
  have Hy0 := hid hy0
  clear h hl hi0 hz0 hs0 hy0
  go_enter Try.func92, Try.ntmps92
  go_wp2_with fail
  go_loopw [5, 10] (fun u i wr => ∃ (j : Nat), j ≤ len ∧ i = .int .i64 j ∧ Hid (Hd w wr [RowR 3 1 u j (nums .i64 (kKeys (es.take j)))])) (fun _ i _ => len - (intOf i).toNat)
  case atStart => exact ⟨0, Nat.zero_le _, rfl, H0⟩
  case round =>
    clear H0
    obtain ⟨j, hj, rfl, HB⟩ := hrel
    obtain ⟨wo, hwo⟩ : ∃ wo : World, wo = wr := ⟨_, rfl⟩
    rw [← hwo] at HB ⊢
    clear hwo wr
    by_cases hlt : j < len
    · have hd1 : decide ((j : Int) < (len : Int)) = true := by simp; omega
      have hd1' : decide (j < len) = true := by simp; omega
      have hml : j < es.length := by rw [← HL.out]; omega
      obtain ⟨⟨a, k, x, y⟩, he⟩ : ∃ e, es[j]? = some e := ⟨es[j], List.getElem?_eq_getElem hml⟩
      obtain ⟨g2, o, rfl, hc⟩ := (H.out.later HB.out.below) j _ he
      have d0 := hc 0 _ rfl
      have d1 := hc 1 _ rfl
      have d2 := hc 2 _ rfl
      have d3 := hc 3 _ rfl
      rw [Nat.add_zero] at d0
      have HW := hid (keys_step he)
      have zm0 : (0 : Int) ≤ (j : Int) := by omega
      have zm1 : (j : Int) < (len : Int) := by omega
      clear hc he hml
      go_wp2_with fail
      refine (key_calls a k x y _).mono ?_
      rintro e w2 ⟨rfl, hb⟩
      have H2 := hid (HB.out.al.still hb)
      clear hb d0 d1 d2 d3
      go_wp2_with (at_builtin; refine append_num (k := .i64) Try.underlying60 Hi0.out Hz0.out Hs0.out Hy0.out (by decide) rfl (.tmp 14) (.tmp 18) rfl H2.out (by rfl) k (by rfl) (by omega) ?_; intro g3 c3 w3 h3; have H3 := hid h3; clear h3)
      go_roundw
      case rel => exact ⟨j + 1, by omega, by go_num, hid (by rw [HW.out]; exact H3.out)⟩
      case measure => simp [intOf]; omega
    · obtain rfl : j = len := by omega
      have hd1 : decide ((j : Int) < (j : Int)) = false := by simp
      obtain ⟨ua, uc, rfl⟩ := HB.out.row_form
      clear hlt
      go_wp2_with fail
      go_ret
      refine ⟨_, rfl, ?_⟩
      have := HB.out
      rwa [List.take_of_length_le (by rw [HL.out]; exact Nat.le_refl _)] at this

set_option maxHeartbeats 2000000 in
theorem keys_calls {es : List En} {v : Value} {w : World} (h : CaAt w v es) (hm : es.length ≤ 900) :
    Calls Try.prog 59 #[.agg #[v]] w fun e w' => ∃ u, e = .returned u ∧ NsAt w' u (kKeys es) ∧ Below w.heap.size w w' := by
  obtain ⟨ad, cap, rfl, hat, _⟩ := h.ex
  have HE := hid hat
  clear hat h
  go_enter Try.func59, Try.ntmps59
  go_wp2_with fail
  have H0 := hid ((Hd.refl w).box (.cells #[.slice ad es.length cap] 85 (0, 0)))
  refine (mapped_calls (HE.out.later H0.out.below) rfl hm).mono ?_
  rintro e w1 ⟨u, rfl, hd⟩
  have H1 := hid (H0.out.join hd)
  obtain ⟨ua, uc, rfl⟩ := hd.row_form
  clear hd
  go_wp2_with fail
  go_ret
  exact ⟨_, rfl, H1.out.row_ns (by simp [kKeys]), H1.out.below⟩

set_option maxRecDepth 100000 in
set_option maxHeartbeats 8000000 in
theorem rkeys_calls {es : List En} {v : Value} {w : World} (h : LaAt w v es) (hm : es.length ≤ 900) :
    Calls Try.prog 60 #[v] w fun e w' => ∃ u, e = .returned u ∧ NsAt w' u (kKeys es) ∧ Below w.heap.size w w' := by
  obtain ⟨ad, cap, rfl, hat, _⟩ := h.ex
  have H := hid hat
  obtain ⟨len, hl⟩ : ∃ len, len = es.length := ⟨_, rfl⟩
  rw [← hl] at hm ⊢
  have HL := hid hl
  have H0 := hid ((Hd.refl w).row_new (E := 3))
  obtain ⟨i0, hi0, hz0, hs0, hy0⟩ := info_I
  have Hi0 := hid hi0
  have Hz0 := hid hz0
  have Hs0 := hid hs0
  have Hy0 := hid hy0
  clear h hl hat hi0 hz0 hs0 hy0
  go_enter Try.func60, Try.ntmps60
  go_wp2_with fail
  go_loopw [3, 4] (fun u i wr => ∃ (j : Nat), j ≤ len ∧ i = .int .i64 j ∧ Hid (Hd w wr [RowR 3 1 u j (nums .i64 (kKeys (es.take j)))])) (fun _ i _ => len - (intOf i).toNat)
  case atStart => exact ⟨0, Nat.zero_le _, rfl, H0⟩
  case round =>
    clear H0
    obtain ⟨j, hj, rfl, HB⟩ := hrel
    obtain ⟨wo, hwo⟩ : ∃ wo : World, wo = wr := ⟨_, rfl⟩
    rw [← hwo] at HB ⊢
    clear hwo wr
    by_cases hlt : j < len
    · have hd1 : decide ((j : Int) < (len : Int)) = true := by simp; omega
      have hd1' : decide (j < len) = true := by simp; omega
      have hml : j < es.length := by rw [← HL.out]; omega
      obtain ⟨⟨a, k, x, y⟩, he⟩ : ∃ e, es[j]? = some e := ⟨es[j], List.getElem?_eq_getElem hml⟩
      obtain ⟨g2, o, rfl, hc⟩ := (H.out.later HB.out.below) j _ he
      have d1 := hc 1 _ rfl
      have HW := hid (keys_step he)
      have zm0 : (0 : Int) ≤ (j : Int) := by omega
      have zm1 : (j : Int) < (len : Int) := by omega
      clear hc he hml
      go_wp2_with (at_builtin; refine append_num (k := .i64) Try.underlying60 Hi0.out Hz0.out Hs0.out Hy0.out (by decide) rfl (.tmp 12) (.tmp 18) rfl HB.out (by rfl) k (by rfl) (by omega) ?_; intro g3 c3 w3 h3; have H3 := hid h3; clear h3)
      go_roundw
      case rel => exact ⟨j + 1, by omega, by go_num, hid (by rw [HW.out]; exact H3.out)⟩
      case measure => simp [intOf]; omega
    · obtain rfl : j = len := by omega
      have hd1 : decide ((j : Int) < (j : Int)) = false := by simp
      obtain ⟨ua, uc, rfl⟩ := HB.out.row_form
      clear hlt
      go_wp2_with fail
      go_ret
      have h2 := HB.out
      rw [List.take_of_length_le (by rw [HL.out]; exact Nat.le_refl _)] at h2
      exact ⟨_, rfl, h2.row_ns (by rw [HL.out]; simp [kKeys]), h2.below⟩
end Go.Proofs.Ytbaliaodioflfaa
