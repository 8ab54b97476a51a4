/-
  A walk through the statement SessLive. For every script.
-/
import Derived.Test.YtpcfmafokkffgaaZ12
namespace Go.Proofs.Ytpcfmafokkffgaa
open Go.RowKit

/-- The epoch and the number of the text ahead of the k-th. -/
def posL (l : List Tr) : Nat → Int × Int
  | 0 => (0, -1)
  | k + 1 => ((l.getD k (0, 0, 0)).1, (l.getD k (0, 0, 0)).2.1)
theorem posL_at {l : List Tr} {k : Nat} {z : Tr} (h : l[k]? = some z) : posL l (k + 1) = (z.1, z.2.1) := by
  show ((l.getD k (0, 0, 0)).1, (l.getD k (0, 0, 0)).2.1) = _
  rw [List.getD_eq_getElem?_getD, h]
  rfl
theorem posL_app {l : List Tr} {z : Tr} : ∀ {k : Nat}, k ≤ l.length → posL (l ++ [z]) k = posL l k
  | 0, _ => rfl
  | k + 1, h => by
    have e : (l ++ [z]).getD k (0, 0, 0) = l.getD k (0, 0, 0) := by
      rw [List.getD_eq_getElem?_getD, List.getD_eq_getElem?_getD, List.getElem?_append_left (by omega)]
    show (((l ++ [z]).getD k (0, 0, 0)).1, ((l ++ [z]).getD k (0, 0, 0)).2.1) = _
    rw [e]
    rfl
/-- One behind another. -/
def LiveSeq (l : List Tr) : Prop := ∀ k, k < l.length → Foll (posL l k) (posL l (k + 1))
theorem LiveSeq.nil : LiveSeq [] := fun k hk => absurd hk (by simp)
theorem LiveSeq.snoc {l : List Tr} {z : Tr} (h : LiveSeq l) (hf : Foll (posL l l.length) (z.1, z.2.1)) : LiveSeq (l ++ [z]) ∧ posL (l ++ [z]) (l.length + 1) = (z.1, z.2.1) := by
  have e : posL (l ++ [z]) (l.length + 1) = (z.1, z.2.1) := posL_at (by simp)
  refine ⟨fun k hk => ?_, e⟩
  rw [List.length_append, List.length_singleton] at hk
  by_cases hk2 : k = l.length
  · subst hk2
    rw [e, posL_app (Nat.le_refl _)]
    exact hf
  · rw [posL_app (by omega), posL_app (by omega)]
    exact h k (by omega)
theorem xor_one : ∀ i : Fin 64, bits .xor .i64 ((i.val : Nat) : Int) 1 = ((if i.val % 2 = 0 then i.val + 1 else i.val - 1 : Nat) : Int) := by decide +kernel
/-- Opened up to here, in order or two and two. -/
def LvSt (r : Rc) (l : List Tr) (odd : Prop) (i : Nat) : Prop := (¬ (odd ∧ i % 2 = 1) → RAt r (posL l i)) ∧ ((odd ∧ i % 2 = 1 ∧ i < l.length) → Mid r (posL l i) (posL l (i + 1)))

set_option maxRecDepth 100000 in
set_option maxHeartbeats 32000000 in
theorem sessLive_walkA (ad : Option Addr) (len cap : Nat) (zs : List Int) (W : World) (hlen : len = zs.length) (hmax : len ≤ maxLen) (hzs : NumsIn .u8 W ad zs) (hl40 : len ≤ 40) :
    Calls Try.prog 11 #[.slice ad len cap] W fun e w' => e = .returned (.bool true) ∧ Below W.heap.size W w' := by
  have Hlen := hid hlen
  have Hzs := hid hzs
  have hm : len ≤ 9223372036854775807 := by unfold maxLen at hmax; exact hmax
  obtain ⟨r2, hr2⟩ : ∃ r, (len : Int).tmod 2 = r := ⟨_, rfl⟩
  have hr02 : 0 ≤ r2 ∧ r2 ≤ 1 := by rw [← hr2, Int.tmod_eq_emod_of_nonneg (by omega)]; omega
  have R02 := hid hr02
  clear hlen hmax hzs hr02
  go_enter Try.func11, Try.ntmps11
  go_wp2_with fail
  refine (pair_two (W := W)).mono ?_
  rintro e w1 ⟨b, pa, pb, rfl, h1⟩
  have TW := hid h1
  have G := hid (good2_start h1.good)
  clear h1
  go_wp2_with fail
  have TW2 := hid (TW.out.row (E := 55) w1.heap.size rfl 3)
  clear TW
  go_loopw [6, 7, 8] (fun vs vt q wr => ∃ (i g1 c1 n : Nat) (st : Int) (l : List Tr) (x : Se) (L : List T), i ≤ 40 ∧ i ≤ len ∧ vs = .slice (some ⟨g1, 0, none⟩) n c1 ∧ vt = .int .i64 st ∧ q = .int .i64 i ∧ Hid (Two W wr b pa pb x (se0 1 3 2 1) L 20000 [RowR 55 3 (.slice (some ⟨g1, 0, none⟩) n c1) n (trC l)]) ∧ Hid (Good2 L x (se0 1 3 2 1)) ∧ Hid (SentOk L l) ∧ Hid (n = l.length) ∧ Hid (x.oe ≤ i ∧ x.sent ≤ i ∧ L.length ≤ 3 + 3 * i ∧ n ≤ i) ∧ Hid (LiveSeq l ∧ Foll (posL l n) (x.oe, x.sent) ∧ (st = 0 → x.oe = (posL l n).1) ∧ (st = 0 ∨ st = 1))) (fun _ _ q _ => 40 - (intOf q).toNat)
  case atStart => exact ⟨0, _, _, 0, 0, [], _, _, by omega, by omega, rfl, rfl, rfl, TW2, G, hid (SentOk.nil _), hid rfl, hid ⟨by decide, by decide, by decide, by decide⟩, hid ⟨LiveSeq.nil, .inl ⟨rfl, rfl⟩, fun _ => rfl, .inl rfl⟩⟩
  case round =>
    clear TW2 G
    obtain ⟨i, g1, c1, n, st, l, x, L, hi, hil, rfl, rfl, rfl, TW, G, SO, HN, S, V⟩ := hrel
    obtain ⟨wl, hwl⟩ : ∃ wl : World, wl = wr := ⟨_, rfl⟩
    rw [← hwl] at TW ⊢
    clear hwl wr
    by_cases hlt : i < len ∧ i < 40
    · have hd1 : decide ((i : Int) < (len : Int)) = true := by simp; omega
      have hd1' : decide (i < len) = true := by simp; omega
      have hd2 : decide ((i : Int) < 40) = true := by simp; omega
      have z4 : IntKind.i64.wrap ((i : Int) + 1) = (i : Int) + 1 := IntWalk.i64_in _ (by omega)
      have z5 : IntKind.i64.wrap ((0 : Int) + 1) = 1 := by decide
      obtain ⟨z, hz⟩ : ∃ z, zs[i]? = some z := ⟨zs[i]'(by rw [← Hlen.out]; exact hlt.1), List.getElem?_eq_getElem _⟩
      obtain ⟨z0, z1, gg, oo, rfl, hc0⟩ := (Hzs.out.later TW.out.below) i z hz
      have z0' : 0 ≤ z := by simpa [IntKind.min, IntKind.signed] using z0
      have z1' : z ≤ 255 := by simpa [IntKind.max, IntKind.signed, IntKind.bits] using z1
      have zj0 : (0 : Int) ≤ (i : Int) := by omega
      have zj1 : (i : Int) < (len : Int) := by omega
      obtain ⟨r, hr1⟩ : ∃ r, z.tmod 4 = r := ⟨_, rfl⟩
      have hr3 : 0 ≤ r ∧ r ≤ 3 := by rw [← hr1, Int.tmod_eq_emod_of_nonneg z0']; omega
      have y1 : IntKind.u8.wrap r = r := IntWalk.u8_in _ (by omega)
      have HLT := hid hlt
      clear hlt hi hil hz z0 z1
      by_cases he : r = 0
      · have e1 : (r == 0) = true := by simpa using he
        clear he hr3
        rcases V.out.2.2.2 with hst | hst
        · subst hst
          go_wp2_with fail
          refine (step_g (by have := S.out.1; have := HLT.out; omega) (by have := S.out.2.2.1; have := HLT.out; omega) G.out TW.out).mono ?_
          rintro e w2 ⟨kk, L', rfl, h1, h2, h3, h4⟩
          clear TW G
          have TW := hid h1
          have G := hid h2
          have SO2 := hid (SO.out.ext h3)
          have N5 := hid h4
          clear h1 h2 h3 h4 SO
          go_wp2_with fail
          go_roundw
          case rel => exact ⟨i + 1, g1, c1, n, 1, l, _, L', (by have := HLT.out; omega), (by have := HLT.out; omega), rfl, rfl, by go_num, TW, G, SO2, HN, hid ⟨by have := S.out.1; dsimp only; omega, by dsimp only; omega, by have := S.out.2.2.1; have := N5.out; omega, by have := S.out.2.2.2; omega⟩, hid ⟨V.out.1, .inr ⟨by have := V.out.2.2.1 (by first | rfl | trivial); dsimp only; omega, rfl⟩, fun h => absurd h (by decide), .inr rfl⟩⟩
          case measure => have := HLT.out; simp [intOf]; omega
        · subst hst
          have y2 : IntKind.u8.wrap (n : Int) = n := IntWalk.u8_in _ (by have := S.out.2.2.2; have := HLT.out; omega)
          obtain ⟨wp, hwp⟩ : ∃ wp, wl.heap.size = wp := ⟨_, rfl⟩
          have cs := str_one (w := wl) n hwp
          go_wp2_with fail
          refine (seal_g (s := ⟨#[UInt8.ofNat n]⟩) (show (1 : Nat) ≤ 1000 by decide) (by have := S.out.2.1; have := HLT.out; omega) (by have := S.out.2.2.1; have := HLT.out; omega) G.out (TW.out.still ((Below.refl _ _).alloc (Nat.le_refl _) _))).mono ?_
          obtain ⟨e0, he0⟩ : ∃ e, x.oe = e := ⟨_, rfl⟩
          obtain ⟨n0, hn0⟩ : ∃ n, x.sent = n := ⟨_, rfl⟩
          rw [he0, hn0]
          rintro e w2 ⟨c, L', rfl, h1, h2, h3, h4, h5⟩
          clear TW
          have TW := hid h1
          have G2 := hid h2
          have SO2 : Hid (SentOk L' (l ++ [(e0, n0, c)])) := hid ((SO.out.ext h4).snoc (by rw [← HN.out]; exact h3) ⟨by rw [← hn0]; exact G.out.xo.s0, by have := S.out.2.1; have := HLT.out; dsimp only; omega⟩ (by have := S.out.1; have := HLT.out; dsimp only; omega))
          have V2 := hid (V.out.1.snoc (z := (e0, n0, c)) (by have := V.out.2.1; rw [he0, hn0, HN.out] at this; exact this))
          have N5 := hid h5
          have HE0 := hid he0
          have HN0 := hid hn0
          clear h1 h2 h3 h4 h5 SO G cs hwp he0 hn0
          obtain ⟨Ss, hA, hB⟩ := TW.out.first
          have HA := hid hA
          have HB := hid hB
          clear hA hB TW
          go_wp2_with (at_builtin; refine append_tr (l := l) (e0, n0, c) rfl (.tmp 64) (.tmp 69) rfl rfl HA.out (by rfl) (by rfl) (by have := S.out.2.2.2; have := HLT.out; omega) ?_; intro g3 c3 w3 h3; have TW3 := hid (HB.out _ _ h3); clear h3 HA HB)
          go_roundw
          case rel =>
            refine ⟨i + 1, g3, c3, n + 1, 0, l ++ [(e0, n0, c)], _, L', (by have := HLT.out; omega), (by have := HLT.out; omega), by first | rfl | trivial, by first | rfl | trivial, by go_num, TW3, G2, SO2, hid (by rw [List.length_append, ← HN.out]; rfl), hid ⟨by have := S.out.1; have := HE0.out; dsimp only; omega, by have := S.out.2.1; have := HN0.out; dsimp only; omega, by have := S.out.2.2.1; have := N5.out; omega, by have := S.out.2.2.2; omega⟩, hid ?_⟩
            have hv := V2.out
            rw [← HN.out] at hv
            refine ⟨hv.1, ?_, fun _ => ?_, .inl rfl⟩
            · rw [hv.2]; exact .inl ⟨rfl, rfl⟩
            · rw [hv.2]
          case measure => have := HLT.out; simp [intOf]; omega
      · have e1 : (r == 0) = false := by simpa using he
        clear he hr3
        have y2 : IntKind.u8.wrap (n : Int) = n := IntWalk.u8_in _ (by have := S.out.2.2.2; have := HLT.out; omega)
        obtain ⟨wp, hwp⟩ : ∃ wp, wl.heap.size = wp := ⟨_, rfl⟩
        have cs := str_one (w := wl) n hwp
        go_wp2_with fail
        refine (seal_g (s := ⟨#[UInt8.ofNat n]⟩) (show (1 : Nat) ≤ 1000 by decide) (by have := S.out.2.1; have := HLT.out; omega) (by have := S.out.2.2.1; have := HLT.out; omega) G.out (TW.out.still ((Below.refl _ _).alloc (Nat.le_refl _) _))).mono ?_
        obtain ⟨e0, he0⟩ : ∃ e, x.oe = e := ⟨_, rfl⟩
        obtain ⟨n0, hn0⟩ : ∃ n, x.sent = n := ⟨_, rfl⟩
        rw [he0, hn0]
        rintro e w2 ⟨c, L', rfl, h1, h2, h3, h4, h5⟩
        clear TW
        have TW := hid h1
        have G2 := hid h2
        have SO2 : Hid (SentOk L' (l ++ [(e0, n0, c)])) := hid ((SO.out.ext h4).snoc (by rw [← HN.out]; exact h3) ⟨by rw [← hn0]; exact G.out.xo.s0, by have := S.out.2.1; have := HLT.out; dsimp only; omega⟩ (by have := S.out.1; have := HLT.out; dsimp only; omega))
        have V2 := hid (V.out.1.snoc (z := (e0, n0, c)) (by have := V.out.2.1; rw [he0, hn0, HN.out] at this; exact this))
        have N5 := hid h5
        have HE0 := hid he0
        have HN0 := hid hn0
        clear h1 h2 h3 h4 h5 SO G cs hwp he0 hn0
        obtain ⟨Ss, hA, hB⟩ := TW.out.first
        have HA := hid hA
        have HB := hid hB
        clear hA hB TW
        go_wp2_with (at_builtin; refine append_tr (l := l) (e0, n0, c) rfl (.tmp 64) (.tmp 69) rfl rfl HA.out (by rfl) (by rfl) (by have := S.out.2.2.2; have := HLT.out; omega) ?_; intro g3 c3 w3 h3; have TW3 := hid (HB.out _ _ h3); clear h3 HA HB)
        go_roundw
        case rel =>
          refine ⟨i + 1, g3, c3, n + 1, 0, l ++ [(e0, n0, c)], _, L', (by have := HLT.out; omega), (by have := HLT.out; omega), by first | rfl | trivial, by first | rfl | trivial, by go_num, TW3, G2, SO2, hid (by rw [List.length_append, ← HN.out]; rfl), hid ⟨by have := S.out.1; have := HE0.out; dsimp only; omega, by have := S.out.2.1; have := HN0.out; dsimp only; omega, by have := S.out.2.2.1; have := N5.out; omega, by have := S.out.2.2.2; omega⟩, hid ?_⟩
          have hv := V2.out
          rw [← HN.out] at hv
          refine ⟨hv.1, ?_, fun _ => ?_, .inl rfl⟩
          · rw [hv.2]; exact .inl ⟨rfl, rfl⟩
          · rw [hv.2]
        case measure => have := HLT.out; simp [intOf]; omega
    · have hd1 : decide ((i : Int) < (len : Int)) = false := by simp; omega
      have hd1' : decide (i < len) = false := by simp; omega
      have NL : Hid (L.length ≤ 123) := hid (by have := S.out.2.2.1; omega)
      have NN : Hid (n ≤ 40) := hid (by have := S.out.2.2.2; omega)
      have SQ := hid V.out.1
      clear hlt hi hil S hl40 V
      by_cases ho : r2 = 1
      · have e2 : (r2 == 1) = true := by simpa using ho
        have HO := hid ho
        clear ho
        go_wp2_with fail
        clear hd1 hd1'
        try clear hd2
        go_loopw [13] (fun q wr => ∃ (j : Nat) (y : Se) (M : List T), j ≤ n ∧ q = .int .i64 j ∧ Hid (Two W wr b pa pb x y M 20000 [RowR 55 3 (.slice (some ⟨g1, 0, none⟩) n c1) n (trC l)]) ∧ Hid (Good2 M x y) ∧ Hid (SentOk M l) ∧ Hid (LvSt y.rc l True j) ∧ Hid (M.length ≤ 123 + 9 * j)) (fun q _ => n - (intOf q).toNat)
        case atStart => exact ⟨0, _, _, by omega, rfl, TW, G, SO, hid ⟨fun _ => ⟨rfl, rfl⟩, fun h => absurd h.2.1 (by decide)⟩, hid (by have := NL.out; omega)⟩
        case round =>
          clear TW G SO NL
          obtain ⟨j, y, M, hj, rfl, TW, G, SO, LS, NM⟩ := hrel
          obtain ⟨wl, hwl⟩ : ∃ wl : World, wl = wr := ⟨_, rfl⟩
          rw [← hwl] at TW ⊢
          clear hwl wr
          by_cases hlt : j < n
          · have hd1 : decide ((j : Int) < (n : Int)) = true := by simp; omega
            have hd1' : decide (j < n) = true := by simp; omega
            have z4 : IntKind.i64.wrap ((j : Int) + 1) = (j : Int) + 1 := IntWalk.i64_in _ (by have := NN.out; omega)
            have HLT := hid hlt
            clear hlt hj
            obtain ⟨hf, hhf⟩ : ∃ h : Nat, j / 2 = h := ⟨_, rfl⟩
            obtain ⟨d2, hdd⟩ : ∃ h : Nat, hf * 2 = h := ⟨_, rfl⟩
            obtain ⟨p2, hpp⟩ : ∃ h : Nat, d2 + 1 = h := ⟨_, rfl⟩
            have q1 : (j : Int).tdiv 2 = (hf : Int) := by rw [Int.tdiv_eq_ediv_of_nonneg (by omega)]; omega
            have q2 : IntKind.i64.wrap (hf : Int) = (hf : Int) := IntWalk.i64_in _ (by have := NN.out; have := HLT.out; omega)
            have q3 : IntKind.i64.wrap ((hf : Int) * 2) = (d2 : Int) := (IntWalk.i64_in _ (by have := NN.out; have := HLT.out; omega)).trans (by omega)
            have q4 : IntKind.i64.wrap ((d2 : Int) + 1) = (p2 : Int) := (IntWalk.i64_in _ (by have := NN.out; have := HLT.out; omega)).trans (by omega)
            have HE := hid (show p2 = j / 2 * 2 + 1 by omega)
            clear hhf hdd hpp
            by_cases hp : p2 < n
            · have hd3 : decide ((p2 : Int) < (n : Int)) = true := by simp; omega
              have hd3' : decide (p2 < n) = true := by simp; omega
              have HP0 := hid (show j / 2 * 2 + 1 < n by rw [← HE.out]; exact hp)
              clear hp
              by_cases hj2 : j % 2 = 0
              · obtain ⟨h, hh⟩ : ∃ h, j + 1 = h := ⟨_, rfl⟩
                have bx : bits .xor .i64 (j : Int) 1 = ((h : Nat) : Int) := by have := xor_one ⟨j, by have := HLT.out; have := NN.out; omega⟩; dsimp only at this; rw [if_pos hj2, hh] at this; exact this
                have HJ := hid hj2
                have HH := hid hh
                clear hj2 hh
                have k0 : (0 : Int) ≤ ((h : Nat) : Int) := by omega
                have k1 : ((h : Nat) : Int) < (n : Int) := by have := HP0.out; have := HJ.out; have := HH.out; omega
                have v5 : IntKind.u8.wrap ((h : Nat) : Int) = (h : Nat) := IntWalk.u8_in _ (by have := NN.out; have := HLT.out; have := HH.out; omega)
                obtain ⟨⟨eK, nK, cK⟩, hzK⟩ : ∃ u, l[h]? = some u := ⟨l[h]'(by rw [← HN.out]; have := HP0.out; have := HJ.out; have := HH.out; omega), List.getElem?_eq_getElem _⟩
                have a0 : ∀ x : Later wl, x.w.cell? ⟨g1, (h) * 3, none⟩ = some (.int .i64 eK) := fun x => x.cell (TW.out.tr_cell hzK).1
                have a1 : ∀ x : Later wl, x.w.cell? ⟨g1, (h) * 3 + 1, none⟩ = some (.int .i64 nK) := fun x => x.cell (TW.out.tr_cell hzK).2.1
                have a2 : ∀ x : Later wl, x.w.cell? ⟨g1, (h) * 3 + 2, none⟩ = some (.int .i64 cK) := fun x => x.cell (TW.out.tr_cell hzK).2.2
                have ZK := hid hzK
                have SK := hid (SO.out (h) _ hzK)
                have hp := posL_at hzK
                have hl := mid_step (m := 20000) G.out.g G.out.nc G.out.yo.rc G.out.yr (LS.out.1 (fun h => absurd h.2 (by have := HJ.out; omega))) (SQ.out j (by rw [← HN.out]; exact HLT.out)) (SQ.out (j + 1) (by rw [← HN.out]; have := HP0.out; have := HJ.out; omega)) (by rw [posL_at (List.getElem?_eq_getElem (show j < l.length by rw [← HN.out]; exact HLT.out))]; exact (SO.out j _ (List.getElem?_eq_getElem _)).2.1.1) (by have := SK.out.2.2; rw [HH.out, hp]; dsimp only; omega) (by have := NM.out; have := NN.out; have := HLT.out; omega)
                rw [show posL l (j + 1 + 1) = posL l (h + 1) by rw [HH.out]] at hl
                rw [hp] at hl
                have HL := hid hl
                have HP := hid hp
                clear hzK hl hp
                go_wp2_with fail
                refine wp_region_turn (C := fun w' => ∃ x : Later wl, w' = x.w) 16 _ (by kernel_rfl) (by kernel_rfl) rfl rfl ⟨⟨_, (Below.refl _ _).drew⟩, rfl⟩ ?_
                simp only [List.take_succ_cons, List.take_zero, List.drop_succ_cons, List.drop_zero]
                repeat (go_big_quiet_step (fail))
                refine wpQuiet_nil ?_
                intro wt hwt KK hKK
                have HK := hid hKK
                clear hKK
                obtain ⟨⟨wt, hbt⟩, rfl⟩ := hwt
                have TWt := hid (TW.out.still hbt)
                clear hbt TW a0 a1 a2
                go_wp2_with fail
                refine (openl_g (t := ⟨#[UInt8.ofNat (h)]⟩) (e := eK) (n := nK) (c := cK) SK.out.2.1.1 SK.out.2.1.2 (by have := SK.out.2.2; omega) SK.out.1 HL.out.1 G.out TWt.out).mono ?_
                rintro e w3 ⟨M3, rfl, h1, h2, h3, h4⟩
                clear TWt
                have TW := hid h1
                replace G := hid h2
                replace SO := hid (SO.out.ext h3)
                replace NM := hid (show M3.length ≤ 132 + 9 * j by have := NM.out; omega)
                clear h1 h2 h3 h4
                go_wp2_with fail
                refine HK.out _ _ ⟨fun w' => w' = w3, rfl, ?_⟩
                clear HK
                repeat (go_big_quiet_step (fail))
                refine wpQuiet_nil ?_
                rintro w3 rfl
                obtain ⟨wp, hwp⟩ : ∃ wp, w3.heap.size = wp := ⟨_, rfl⟩
                have cvt := str_one (w := w3) (h) hwp
                go_wp2_with fail
                go_roundw
                case rel => exact ⟨j + 1, _, M3, (by have := HLT.out; omega), by go_num, hid (TW.out.still ((Below.refl _ _).alloc (Nat.le_refl _) _)), G, SO, hid (⟨fun h => absurd ⟨trivial, by have := HJ.out; omega⟩ h, fun _ => by rw [show j + 1 + 1 = h + 1 by rw [HH.out], HP.out]; exact HL.out.2⟩), hid (by have := NM.out; omega)⟩
                case measure => have := HLT.out; simp [intOf]; omega
              · obtain ⟨h, hh⟩ : ∃ h, j = h + 1 := ⟨j - 1, by omega⟩
                have bx : bits .xor .i64 (j : Int) 1 = ((h : Nat) : Int) := by have := xor_one ⟨j, by have := HLT.out; have := NN.out; omega⟩; dsimp only at this; rw [if_neg hj2, hh] at this; rw [hh]; exact this
                have HJ := hid hj2
                have HH := hid hh
                clear hj2 hh
                have k0 : (0 : Int) ≤ ((h : Nat) : Int) := by omega
                have k1 : ((h : Nat) : Int) < (n : Int) := by have := HLT.out; have := HH.out; omega
                have v5 : IntKind.u8.wrap ((h : Nat) : Int) = (h : Nat) := IntWalk.u8_in _ (by have := NN.out; have := HLT.out; have := HH.out; omega)
                obtain ⟨⟨eK, nK, cK⟩, hzK⟩ : ∃ u, l[h]? = some u := ⟨l[h]'(by rw [← HN.out]; have := HLT.out; have := HH.out; omega), List.getElem?_eq_getElem _⟩
                have a0 : ∀ x : Later wl, x.w.cell? ⟨g1, (h) * 3, none⟩ = some (.int .i64 eK) := fun x => x.cell (TW.out.tr_cell hzK).1
                have a1 : ∀ x : Later wl, x.w.cell? ⟨g1, (h) * 3 + 1, none⟩ = some (.int .i64 nK) := fun x => x.cell (TW.out.tr_cell hzK).2.1
                have a2 : ∀ x : Later wl, x.w.cell? ⟨g1, (h) * 3 + 2, none⟩ = some (.int .i64 cK) := fun x => x.cell (TW.out.tr_cell hzK).2.2
                have ZK := hid hzK
                have SK := hid (SO.out (h) _ hzK)
                have hp := posL_at hzK
                have hl := mid_done (m := 20000) G.out.nc G.out.yr (LS.out.2 ⟨trivial, by have := HJ.out; omega, by rw [← HN.out]; exact HLT.out⟩) (by have := NM.out; have := NN.out; have := HLT.out; omega)
                rw [show posL l j = posL l (h + 1) by rw [HH.out]] at hl
                rw [hp] at hl
                have HL := hid hl
                have HP := hid hp
                clear hzK hl hp
                go_wp2_with fail
                refine wp_region_turn (C := fun w' => ∃ x : Later wl, w' = x.w) 16 _ (by kernel_rfl) (by kernel_rfl) rfl rfl ⟨⟨_, (Below.refl _ _).drew⟩, rfl⟩ ?_
                simp only [List.take_succ_cons, List.take_zero, List.drop_succ_cons, List.drop_zero]
                repeat (go_big_quiet_step (fail))
                refine wpQuiet_nil ?_
                intro wt hwt KK hKK
                have HK := hid hKK
                clear hKK
                obtain ⟨⟨wt, hbt⟩, rfl⟩ := hwt
                have TWt := hid (TW.out.still hbt)
                clear hbt TW a0 a1 a2
                go_wp2_with fail
                refine (openl_g (t := ⟨#[UInt8.ofNat (h)]⟩) (e := eK) (n := nK) (c := cK) SK.out.2.1.1 SK.out.2.1.2 (by have := SK.out.2.2; omega) SK.out.1 HL.out.1 G.out TWt.out).mono ?_
                rintro e w3 ⟨M3, rfl, h1, h2, h3, h4⟩
                clear TWt
                have TW := hid h1
                replace G := hid h2
                replace SO := hid (SO.out.ext h3)
                replace NM := hid (show M3.length ≤ 132 + 9 * j by have := NM.out; omega)
                clear h1 h2 h3 h4
                go_wp2_with fail
                refine HK.out _ _ ⟨fun w' => w' = w3, rfl, ?_⟩
                clear HK
                repeat (go_big_quiet_step (fail))
                refine wpQuiet_nil ?_
                rintro w3 rfl
                obtain ⟨wp, hwp⟩ : ∃ wp, w3.heap.size = wp := ⟨_, rfl⟩
                have cvt := str_one (w := w3) (h) hwp
                go_wp2_with fail
                go_roundw
                case rel => exact ⟨j + 1, _, M3, (by have := HLT.out; omega), by go_num, hid (TW.out.still ((Below.refl _ _).alloc (Nat.le_refl _) _)), G, SO, hid (⟨fun _ => HL.out.2, fun h => absurd h.2.1 (by have := HJ.out; omega)⟩), hid (by have := NM.out; omega)⟩
                case measure => have := HLT.out; simp [intOf]; omega
            · have hd3 : decide ((p2 : Int) < (n : Int)) = false := by simp; omega
              have hd3' : decide (p2 < n) = false := by simp; omega
              have HJ : Hid (j % 2 = 0) := hid (by have := HLT.out; have := HE.out; omega)
              have HQ := hid (show ¬ j / 2 * 2 + 1 < n by rw [← HE.out]; exact hp)
              clear hp
              have k0 : (0 : Int) ≤ ((j : Nat) : Int) := by omega
              have k1 : ((j : Nat) : Int) < (n : Int) := by have := HLT.out; omega
              have v5 : IntKind.u8.wrap ((j : Nat) : Int) = (j : Nat) := IntWalk.u8_in _ (by have := NN.out; have := HLT.out; omega)
              obtain ⟨⟨eK, nK, cK⟩, hzK⟩ : ∃ u, l[j]? = some u := ⟨l[j]'(by rw [← HN.out]; have := HLT.out; omega), List.getElem?_eq_getElem _⟩
              have a0 : ∀ x : Later wl, x.w.cell? ⟨g1, (j) * 3, none⟩ = some (.int .i64 eK) := fun x => x.cell (TW.out.tr_cell hzK).1
              have a1 : ∀ x : Later wl, x.w.cell? ⟨g1, (j) * 3 + 1, none⟩ = some (.int .i64 nK) := fun x => x.cell (TW.out.tr_cell hzK).2.1
              have a2 : ∀ x : Later wl, x.w.cell? ⟨g1, (j) * 3 + 2, none⟩ = some (.int .i64 cK) := fun x => x.cell (TW.out.tr_cell hzK).2.2
              have ZK := hid hzK
              have SK := hid (SO.out (j) _ hzK)
              have hp := posL_at hzK
              have hl := live_step (m := 20000) G.out.g G.out.nc G.out.yo.rc G.out.yr (LS.out.1 (fun h => absurd h.2 (by have := HJ.out; omega))) (SQ.out j (by rw [← HN.out]; exact HLT.out)) (by have := SK.out.2.1.1; rw [hp]; exact this) (by have := SK.out.2.2; rw [hp]; dsimp only; omega) (by have := NM.out; have := NN.out; have := HLT.out; omega)
              rw [hp] at hl
              have HL := hid hl
              have HP := hid hp
              clear hzK hl hp
              go_wp2_with fail
              refine wp_region_turn (C := fun w' => ∃ x : Later wl, w' = x.w) 16 _ (by kernel_rfl) (by kernel_rfl) rfl rfl ⟨⟨_, (Below.refl _ _).drew⟩, rfl⟩ ?_
              simp only [List.take_succ_cons, List.take_zero, List.drop_succ_cons, List.drop_zero]
              repeat (go_big_quiet_step (fail))
              refine wpQuiet_nil ?_
              intro wt hwt KK hKK
              have HK := hid hKK
              clear hKK
              obtain ⟨⟨wt, hbt⟩, rfl⟩ := hwt
              have TWt := hid (TW.out.still hbt)
              clear hbt TW a0 a1 a2
              go_wp2_with fail
              refine (openl_g (t := ⟨#[UInt8.ofNat (j)]⟩) (e := eK) (n := nK) (c := cK) SK.out.2.1.1 SK.out.2.1.2 (by have := SK.out.2.2; omega) SK.out.1 HL.out.1 G.out TWt.out).mono ?_
              rintro e w3 ⟨M3, rfl, h1, h2, h3, h4⟩
              clear TWt
              have TW := hid h1
              replace G := hid h2
              replace SO := hid (SO.out.ext h3)
              replace NM := hid (show M3.length ≤ 132 + 9 * j by have := NM.out; omega)
              clear h1 h2 h3 h4
              go_wp2_with fail
              refine HK.out _ _ ⟨fun w' => w' = w3, rfl, ?_⟩
              clear HK
              repeat (go_big_quiet_step (fail))
              refine wpQuiet_nil ?_
              rintro w3 rfl
              obtain ⟨wp, hwp⟩ : ∃ wp, w3.heap.size = wp := ⟨_, rfl⟩
              have cvt := str_one (w := w3) (j) hwp
              go_wp2_with fail
              go_roundw
              case rel => exact ⟨j + 1, _, M3, (by have := HLT.out; omega), by go_num, hid (TW.out.still ((Below.refl _ _).alloc (Nat.le_refl _) _)), G, SO, hid (⟨fun _ => by rw [HP.out]; exact HL.out.2, fun h => absurd h.2.2 (by rw [← HN.out]; have := HQ.out; have := HLT.out; have := HJ.out; omega)⟩), hid (by have := NM.out; omega)⟩
              case measure => have := HLT.out; simp [intOf]; omega
          · have hd1 : decide ((j : Int) < (n : Int)) = false := by simp; omega
            have hd1' : decide (j < n) = false := by simp; omega
            clear hlt hj
            go_wp2_with fail
            refine (fixed19_calls _).mono ?_
            rintro e w6 ⟨rfl, h1⟩
            have T2 := hid (TW.out.below.trans (h1.mono TW.out.below.size))
            clear h1
            go_wp2_with fail
            go_ret
            exact ⟨rfl, T2.out⟩
      · have e2 : (r2 == 1) = false := by simpa using ho
        have HO := hid ho
        clear ho
        go_wp2_with fail
        clear hd1 hd1'
        try clear hd2
        go_loopw [13] (fun q wr => ∃ (j : Nat) (y : Se) (M : List T), j ≤ n ∧ q = .int .i64 j ∧ Hid (Two W wr b pa pb x y M 20000 [RowR 55 3 (.slice (some ⟨g1, 0, none⟩) n c1) n (trC l)]) ∧ Hid (Good2 M x y) ∧ Hid (SentOk M l) ∧ Hid (LvSt y.rc l False j) ∧ Hid (M.length ≤ 123 + 9 * j)) (fun q _ => n - (intOf q).toNat)
        case atStart => exact ⟨0, _, _, by omega, rfl, TW, G, SO, hid ⟨fun _ => ⟨rfl, rfl⟩, fun h => absurd h.2.1 (by decide)⟩, hid (by have := NL.out; omega)⟩
        case round =>
          clear TW G SO NL
          obtain ⟨j, y, M, hj, rfl, TW, G, SO, LS, NM⟩ := hrel
          obtain ⟨wl, hwl⟩ : ∃ wl : World, wl = wr := ⟨_, rfl⟩
          rw [← hwl] at TW ⊢
          clear hwl wr
          by_cases hlt : j < n
          · have hd1 : decide ((j : Int) < (n : Int)) = true := by simp; omega
            have hd1' : decide (j < n) = true := by simp; omega
            have z4 : IntKind.i64.wrap ((j : Int) + 1) = (j : Int) + 1 := IntWalk.i64_in _ (by have := NN.out; omega)
            have HLT := hid hlt
            clear hlt hj
            have k0 : (0 : Int) ≤ ((j : Nat) : Int) := by omega
            have k1 : ((j : Nat) : Int) < (n : Int) := by have := HLT.out; omega
            have v5 : IntKind.u8.wrap ((j : Nat) : Int) = (j : Nat) := IntWalk.u8_in _ (by have := NN.out; have := HLT.out; omega)
            obtain ⟨⟨eK, nK, cK⟩, hzK⟩ : ∃ u, l[j]? = some u := ⟨l[j]'(by rw [← HN.out]; have := HLT.out; omega), List.getElem?_eq_getElem _⟩
            have a0 : ∀ x : Later wl, x.w.cell? ⟨g1, (j) * 3, none⟩ = some (.int .i64 eK) := fun x => x.cell (TW.out.tr_cell hzK).1
            have a1 : ∀ x : Later wl, x.w.cell? ⟨g1, (j) * 3 + 1, none⟩ = some (.int .i64 nK) := fun x => x.cell (TW.out.tr_cell hzK).2.1
            have a2 : ∀ x : Later wl, x.w.cell? ⟨g1, (j) * 3 + 2, none⟩ = some (.int .i64 cK) := fun x => x.cell (TW.out.tr_cell hzK).2.2
            have ZK := hid hzK
            have SK := hid (SO.out (j) _ hzK)
            have hp := posL_at hzK
            have hl := live_step (m := 20000) G.out.g G.out.nc G.out.yo.rc G.out.yr (LS.out.1 (fun h => h.1)) (SQ.out j (by rw [← HN.out]; exact HLT.out)) (by have := SK.out.2.1.1; rw [hp]; exact this) (by have := SK.out.2.2; rw [hp]; dsimp only; omega) (by have := NM.out; have := NN.out; have := HLT.out; omega)
            rw [hp] at hl
            have HL := hid hl
            have HP := hid hp
            clear hzK hl hp
            go_wp2_with fail
            refine wp_region_turn (C := fun w' => ∃ x : Later wl, w' = x.w) 16 _ (by kernel_rfl) (by kernel_rfl) rfl rfl ⟨⟨_, (Below.refl _ _).drew⟩, rfl⟩ ?_
            simp only [List.take_succ_cons, List.take_zero, List.drop_succ_cons, List.drop_zero]
            repeat (go_big_quiet_step (fail))
            refine wpQuiet_nil ?_
            intro wt hwt KK hKK
            have HK := hid hKK
            clear hKK
            obtain ⟨⟨wt, hbt⟩, rfl⟩ := hwt
            have TWt := hid (TW.out.still hbt)
            clear hbt TW a0 a1 a2
            go_wp2_with fail
            refine (openl_g (t := ⟨#[UInt8.ofNat (j)]⟩) (e := eK) (n := nK) (c := cK) SK.out.2.1.1 SK.out.2.1.2 (by have := SK.out.2.2; omega) SK.out.1 HL.out.1 G.out TWt.out).mono ?_
            rintro e w3 ⟨M3, rfl, h1, h2, h3, h4⟩
            clear TWt
            have TW := hid h1
            replace G := hid h2
            replace SO := hid (SO.out.ext h3)
            replace NM := hid (show M3.length ≤ 132 + 9 * j by have := NM.out; omega)
            clear h1 h2 h3 h4
            go_wp2_with fail
            refine HK.out _ _ ⟨fun w' => w' = w3, rfl, ?_⟩
            clear HK
            repeat (go_big_quiet_step (fail))
            refine wpQuiet_nil ?_
            rintro w3 rfl
            obtain ⟨wp, hwp⟩ : ∃ wp, w3.heap.size = wp := ⟨_, rfl⟩
            have cvt := str_one (w := w3) (j) hwp
            go_wp2_with fail
            go_roundw
            case rel => exact ⟨j + 1, _, M3, (by have := HLT.out; omega), by go_num, hid (TW.out.still ((Below.refl _ _).alloc (Nat.le_refl _) _)), G, SO, hid (⟨fun _ => by rw [HP.out]; exact HL.out.2, fun h => absurd h.1 id⟩), hid (by have := NM.out; omega)⟩
            case measure => have := HLT.out; simp [intOf]; omega
          · have hd1 : decide ((j : Int) < (n : Int)) = false := by simp; omega
            have hd1' : decide (j < n) = false := by simp; omega
            clear hlt hj
            go_wp2_with fail
            refine (fixed19_calls _).mono ?_
            rintro e w6 ⟨rfl, h1⟩
            have T2 := hid (TW.out.below.trans (h1.mono TW.out.below.size))
            clear h1
            go_wp2_with fail
            go_ret
            exact ⟨rfl, T2.out⟩
set_option maxRecDepth 100000 in
set_option maxHeartbeats 32000000 in
theorem sessLive_walkB (ad : Option Addr) (len cap : Nat) (zs : List Int) (W : World) (hlen : len = zs.length) (hmax : len ≤ maxLen) (hzs : NumsIn .u8 W ad zs) (hl40 : 40 < len) :
    Calls Try.prog 11 #[.slice ad len cap] W fun e w' => e = .returned (.bool true) ∧ Below W.heap.size W w' := by
  have Hlen := hid hlen
  have Hzs := hid hzs
  have hm : len ≤ 9223372036854775807 := by unfold maxLen at hmax; exact hmax
  obtain ⟨r2, hr2⟩ : ∃ r, (len : Int).tmod 2 = r := ⟨_, rfl⟩
  have hr02 : 0 ≤ r2 ∧ r2 ≤ 1 := by rw [← hr2, Int.tmod_eq_emod_of_nonneg (by omega)]; omega
  have R02 := hid hr02
  clear hlen hmax hzs hr02
  go_enter Try.func11, Try.ntmps11
  go_wp2_with fail
  refine (pair_two (W := W)).mono ?_
  rintro e w1 ⟨b, pa, pb, rfl, h1⟩
  have TW := hid h1
  have G := hid (good2_start h1.good)
  clear h1
  go_wp2_with fail
  have TW2 := hid (TW.out.row (E := 55) w1.heap.size rfl 3)
  clear TW
  go_loopw [6, 7, 8] (fun vs vt q wr => ∃ (i g1 c1 n : Nat) (st : Int) (l : List Tr) (x : Se) (L : List T), i ≤ 40 ∧ i ≤ len ∧ vs = .slice (some ⟨g1, 0, none⟩) n c1 ∧ vt = .int .i64 st ∧ q = .int .i64 i ∧ Hid (Two W wr b pa pb x (se0 1 3 2 1) L 20000 [RowR 55 3 (.slice (some ⟨g1, 0, none⟩) n c1) n (trC l)]) ∧ Hid (Good2 L x (se0 1 3 2 1)) ∧ Hid (SentOk L l) ∧ Hid (n = l.length) ∧ Hid (x.oe ≤ i ∧ x.sent ≤ i ∧ L.length ≤ 3 + 3 * i ∧ n ≤ i) ∧ Hid (LiveSeq l ∧ Foll (posL l n) (x.oe, x.sent) ∧ (st = 0 → x.oe = (posL l n).1) ∧ (st = 0 ∨ st = 1))) (fun _ _ q _ => 40 - (intOf q).toNat)
  case atStart => exact ⟨0, _, _, 0, 0, [], _, _, by omega, by omega, rfl, rfl, rfl, TW2, G, hid (SentOk.nil _), hid rfl, hid ⟨by decide, by decide, by decide, by decide⟩, hid ⟨LiveSeq.nil, .inl ⟨rfl, rfl⟩, fun _ => rfl, .inl rfl⟩⟩
  case round =>
    clear TW2 G
    obtain ⟨i, g1, c1, n, st, l, x, L, hi, hil, rfl, rfl, rfl, TW, G, SO, HN, S, V⟩ := hrel
    obtain ⟨wl, hwl⟩ : ∃ wl : World, wl = wr := ⟨_, rfl⟩
    rw [← hwl] at TW ⊢
    clear hwl wr
    by_cases hlt : i < len ∧ i < 40
    · have hd1 : decide ((i : Int) < (len : Int)) = true := by simp; omega
      have hd1' : decide (i < len) = true := by simp; omega
      have hd2 : decide ((i : Int) < 40) = true := by simp; omega
      have z4 : IntKind.i64.wrap ((i : Int) + 1) = (i : Int) + 1 := IntWalk.i64_in _ (by omega)
      have z5 : IntKind.i64.wrap ((0 : Int) + 1) = 1 := by decide
      obtain ⟨z, hz⟩ : ∃ z, zs[i]? = some z := ⟨zs[i]'(by rw [← Hlen.out]; exact hlt.1), List.getElem?_eq_getElem _⟩
      obtain ⟨z0, z1, gg, oo, rfl, hc0⟩ := (Hzs.out.later TW.out.below) i z hz
      have z0' : 0 ≤ z := by simpa [IntKind.min, IntKind.signed] using z0
      have z1' : z ≤ 255 := by simpa [IntKind.max, IntKind.signed, IntKind.bits] using z1
      have zj0 : (0 : Int) ≤ (i : Int) := by omega
      have zj1 : (i : Int) < (len : Int) := by omega
      obtain ⟨r, hr1⟩ : ∃ r, z.tmod 4 = r := ⟨_, rfl⟩
      have hr3 : 0 ≤ r ∧ r ≤ 3 := by rw [← hr1, Int.tmod_eq_emod_of_nonneg z0']; omega
      have y1 : IntKind.u8.wrap r = r := IntWalk.u8_in _ (by omega)
      have HLT := hid hlt
      clear hlt hi hil hz z0 z1
      by_cases he : r = 0
      · have e1 : (r == 0) = true := by simpa using he
        clear he hr3
        rcases V.out.2.2.2 with hst | hst
        · subst hst
          go_wp2_with fail
          refine (step_g (by have := S.out.1; have := HLT.out; omega) (by have := S.out.2.2.1; have := HLT.out; omega) G.out TW.out).mono ?_
          rintro e w2 ⟨kk, L', rfl, h1, h2, h3, h4⟩
          clear TW G
          have TW := hid h1
          have G := hid h2
          have SO2 := hid (SO.out.ext h3)
          have N5 := hid h4
          clear h1 h2 h3 h4 SO
          go_wp2_with fail
          go_roundw
          case rel => exact ⟨i + 1, g1, c1, n, 1, l, _, L', (by have := HLT.out; omega), (by have := HLT.out; omega), rfl, rfl, by go_num, TW, G, SO2, HN, hid ⟨by have := S.out.1; dsimp only; omega, by dsimp only; omega, by have := S.out.2.2.1; have := N5.out; omega, by have := S.out.2.2.2; omega⟩, hid ⟨V.out.1, .inr ⟨by have := V.out.2.2.1 (by first | rfl | trivial); dsimp only; omega, rfl⟩, fun h => absurd h (by decide), .inr rfl⟩⟩
          case measure => have := HLT.out; simp [intOf]; omega
        · subst hst
          have y2 : IntKind.u8.wrap (n : Int) = n := IntWalk.u8_in _ (by have := S.out.2.2.2; have := HLT.out; omega)
          obtain ⟨wp, hwp⟩ : ∃ wp, wl.heap.size = wp := ⟨_, rfl⟩
          have cs := str_one (w := wl) n hwp
          go_wp2_with fail
          refine (seal_g (s := ⟨#[UInt8.ofNat n]⟩) (show (1 : Nat) ≤ 1000 by decide) (by have := S.out.2.1; have := HLT.out; omega) (by have := S.out.2.2.1; have := HLT.out; omega) G.out (TW.out.still ((Below.refl _ _).alloc (Nat.le_refl _) _))).mono ?_
          obtain ⟨e0, he0⟩ : ∃ e, x.oe = e := ⟨_, rfl⟩
          obtain ⟨n0, hn0⟩ : ∃ n, x.sent = n := ⟨_, rfl⟩
          rw [he0, hn0]
          rintro e w2 ⟨c, L', rfl, h1, h2, h3, h4, h5⟩
          clear TW
          have TW := hid h1
          have G2 := hid h2
          have SO2 : Hid (SentOk L' (l ++ [(e0, n0, c)])) := hid ((SO.out.ext h4).snoc (by rw [← HN.out]; exact h3) ⟨by rw [← hn0]; exact G.out.xo.s0, by have := S.out.2.1; have := HLT.out; dsimp only; omega⟩ (by have := S.out.1; have := HLT.out; dsimp only; omega))
          have V2 := hid (V.out.1.snoc (z := (e0, n0, c)) (by have := V.out.2.1; rw [he0, hn0, HN.out] at this; exact this))
          have N5 := hid h5
          have HE0 := hid he0
          have HN0 := hid hn0
          clear h1 h2 h3 h4 h5 SO G cs hwp he0 hn0
          obtain ⟨Ss, hA, hB⟩ := TW.out.first
          have HA := hid hA
          have HB := hid hB
          clear hA hB TW
          go_wp2_with (at_builtin; refine append_tr (l := l) (e0, n0, c) rfl (.tmp 64) (.tmp 69) rfl rfl HA.out (by rfl) (by rfl) (by have := S.out.2.2.2; have := HLT.out; omega) ?_; intro g3 c3 w3 h3; have TW3 := hid (HB.out _ _ h3); clear h3 HA HB)
          go_roundw
          case rel =>
            refine ⟨i + 1, g3, c3, n + 1, 0, l ++ [(e0, n0, c)], _, L', (by have := HLT.out; omega), (by have := HLT.out; omega), by first | rfl | trivial, by first | rfl | trivial, by go_num, TW3, G2, SO2, hid (by rw [List.length_append, ← HN.out]; rfl), hid ⟨by have := S.out.1; have := HE0.out; dsimp only; omega, by have := S.out.2.1; have := HN0.out; dsimp only; omega, by have := S.out.2.2.1; have := N5.out; omega, by have := S.out.2.2.2; omega⟩, hid ?_⟩
            have hv := V2.out
            rw [← HN.out] at hv
            refine ⟨hv.1, ?_, fun _ => ?_, .inl rfl⟩
            · rw [hv.2]; exact .inl ⟨rfl, rfl⟩
            · rw [hv.2]
          case measure => have := HLT.out; simp [intOf]; omega
      · have e1 : (r == 0) = false := by simpa using he
        clear he hr3
        have y2 : IntKind.u8.wrap (n : Int) = n := IntWalk.u8_in _ (by have := S.out.2.2.2; have := HLT.out; omega)
        obtain ⟨wp, hwp⟩ : ∃ wp, wl.heap.size = wp := ⟨_, rfl⟩
        have cs := str_one (w := wl) n hwp
        go_wp2_with fail
        refine (seal_g (s := ⟨#[UInt8.ofNat n]⟩) (show (1 : Nat) ≤ 1000 by decide) (by have := S.out.2.1; have := HLT.out; omega) (by have := S.out.2.2.1; have := HLT.out; omega) G.out (TW.out.still ((Below.refl _ _).alloc (Nat.le_refl _) _))).mono ?_
        obtain ⟨e0, he0⟩ : ∃ e, x.oe = e := ⟨_, rfl⟩
        obtain ⟨n0, hn0⟩ : ∃ n, x.sent = n := ⟨_, rfl⟩
        rw [he0, hn0]
        rintro e w2 ⟨c, L', rfl, h1, h2, h3, h4, h5⟩
        clear TW
        have TW := hid h1
        have G2 := hid h2
        have SO2 : Hid (SentOk L' (l ++ [(e0, n0, c)])) := hid ((SO.out.ext h4).snoc (by rw [← HN.out]; exact h3) ⟨by rw [← hn0]; exact G.out.xo.s0, by have := S.out.2.1; have := HLT.out; dsimp only; omega⟩ (by have := S.out.1; have := HLT.out; dsimp only; omega))
        have V2 := hid (V.out.1.snoc (z := (e0, n0, c)) (by have := V.out.2.1; rw [he0, hn0, HN.out] at this; exact this))
        have N5 := hid h5
        have HE0 := hid he0
        have HN0 := hid hn0
        clear h1 h2 h3 h4 h5 SO G cs hwp he0 hn0
        obtain ⟨Ss, hA, hB⟩ := TW.out.first
        have HA := hid hA
        have HB := hid hB
        clear hA hB TW
        go_wp2_with (at_builtin; refine append_tr (l := l) (e0, n0, c) rfl (.tmp 64) (.tmp 69) rfl rfl HA.out (by rfl) (by rfl) (by have := S.out.2.2.2; have := HLT.out; omega) ?_; intro g3 c3 w3 h3; have TW3 := hid (HB.out _ _ h3); clear h3 HA HB)
        go_roundw
        case rel =>
          refine ⟨i + 1, g3, c3, n + 1, 0, l ++ [(e0, n0, c)], _, L', (by have := HLT.out; omega), (by have := HLT.out; omega), by first | rfl | trivial, by first | rfl | trivial, by go_num, TW3, G2, SO2, hid (by rw [List.length_append, ← HN.out]; rfl), hid ⟨by have := S.out.1; have := HE0.out; dsimp only; omega, by have := S.out.2.1; have := HN0.out; dsimp only; omega, by have := S.out.2.2.1; have := N5.out; omega, by have := S.out.2.2.2; omega⟩, hid ?_⟩
          have hv := V2.out
          rw [← HN.out] at hv
          refine ⟨hv.1, ?_, fun _ => ?_, .inl rfl⟩
          · rw [hv.2]; exact .inl ⟨rfl, rfl⟩
          · rw [hv.2]
        case measure => have := HLT.out; simp [intOf]; omega
    · have hd1 : decide ((i : Int) < (len : Int)) = true := by simp; omega
      have hd1' : decide (i < len) = true := by simp; omega
      have hd2 : decide ((i : Int) < 40) = false := by simp; omega
      have NL : Hid (L.length ≤ 123) := hid (by have := S.out.2.2.1; omega)
      have NN : Hid (n ≤ 40) := hid (by have := S.out.2.2.2; omega)
      have SQ := hid V.out.1
      clear hlt hi hil S hl40 V
      by_cases ho : r2 = 1
      · have e2 : (r2 == 1) = true := by simpa using ho
        have HO := hid ho
        clear ho
        go_wp2_with fail
        clear hd1 hd1'
        try clear hd2
        go_loopw [13] (fun q wr => ∃ (j : Nat) (y : Se) (M : List T), j ≤ n ∧ q = .int .i64 j ∧ Hid (Two W wr b pa pb x y M 20000 [RowR 55 3 (.slice (some ⟨g1, 0, none⟩) n c1) n (trC l)]) ∧ Hid (Good2 M x y) ∧ Hid (SentOk M l) ∧ Hid (LvSt y.rc l True j) ∧ Hid (M.length ≤ 123 + 9 * j)) (fun q _ => n - (intOf q).toNat)
        case atStart => exact ⟨0, _, _, by omega, rfl, TW, G, SO, hid ⟨fun _ => ⟨rfl, rfl⟩, fun h => absurd h.2.1 (by decide)⟩, hid (by have := NL.out; omega)⟩
        case round =>
          clear TW G SO NL
          obtain ⟨j, y, M, hj, rfl, TW, G, SO, LS, NM⟩ := hrel
          obtain ⟨wl, hwl⟩ : ∃ wl : World, wl = wr := ⟨_, rfl⟩
          rw [← hwl] at TW ⊢
          clear hwl wr
          by_cases hlt : j < n
          · have hd1 : decide ((j : Int) < (n : Int)) = true := by simp; omega
            have hd1' : decide (j < n) = true := by simp; omega
            have z4 : IntKind.i64.wrap ((j : Int) + 1) = (j : Int) + 1 := IntWalk.i64_in _ (by have := NN.out; omega)
            have HLT := hid hlt
            clear hlt hj
            obtain ⟨hf, hhf⟩ : ∃ h : Nat, j / 2 = h := ⟨_, rfl⟩
            obtain ⟨d2, hdd⟩ : ∃ h : Nat, hf * 2 = h := ⟨_, rfl⟩
            obtain ⟨p2, hpp⟩ : ∃ h : Nat, d2 + 1 = h := ⟨_, rfl⟩
            have q1 : (j : Int).tdiv 2 = (hf : Int) := by rw [Int.tdiv_eq_ediv_of_nonneg (by omega)]; omega
            have q2 : IntKind.i64.wrap (hf : Int) = (hf : Int) := IntWalk.i64_in _ (by have := NN.out; have := HLT.out; omega)
            have q3 : IntKind.i64.wrap ((hf : Int) * 2) = (d2 : Int) := (IntWalk.i64_in _ (by have := NN.out; have := HLT.out; omega)).trans (by omega)
            have q4 : IntKind.i64.wrap ((d2 : Int) + 1) = (p2 : Int) := (IntWalk.i64_in _ (by have := NN.out; have := HLT.out; omega)).trans (by omega)
            have HE := hid (show p2 = j / 2 * 2 + 1 by omega)
            clear hhf hdd hpp
            by_cases hp : p2 < n
            · have hd3 : decide ((p2 : Int) < (n : Int)) = true := by simp; omega
              have hd3' : decide (p2 < n) = true := by simp; omega
              have HP0 := hid (show j / 2 * 2 + 1 < n by rw [← HE.out]; exact hp)
              clear hp
              by_cases hj2 : j % 2 = 0
              · obtain ⟨h, hh⟩ : ∃ h, j + 1 = h := ⟨_, rfl⟩
                have bx : bits .xor .i64 (j : Int) 1 = ((h : Nat) : Int) := by have := xor_one ⟨j, by have := HLT.out; have := NN.out; omega⟩; dsimp only at this; rw [if_pos hj2, hh] at this; exact this
                have HJ := hid hj2
                have HH := hid hh
                clear hj2 hh
                have k0 : (0 : Int) ≤ ((h : Nat) : Int) := by omega
                have k1 : ((h : Nat) : Int) < (n : Int) := by have := HP0.out; have := HJ.out; have := HH.out; omega
                have v5 : IntKind.u8.wrap ((h : Nat) : Int) = (h : Nat) := IntWalk.u8_in _ (by have := NN.out; have := HLT.out; have := HH.out; omega)
                obtain ⟨⟨eK, nK, cK⟩, hzK⟩ : ∃ u, l[h]? = some u := ⟨l[h]'(by rw [← HN.out]; have := HP0.out; have := HJ.out; have := HH.out; omega), List.getElem?_eq_getElem _⟩
                have a0 : ∀ x : Later wl, x.w.cell? ⟨g1, (h) * 3, none⟩ = some (.int .i64 eK) := fun x => x.cell (TW.out.tr_cell hzK).1
                have a1 : ∀ x : Later wl, x.w.cell? ⟨g1, (h) * 3 + 1, none⟩ = some (.int .i64 nK) := fun x => x.cell (TW.out.tr_cell hzK).2.1
                have a2 : ∀ x : Later wl, x.w.cell? ⟨g1, (h) * 3 + 2, none⟩ = some (.int .i64 cK) := fun x => x.cell (TW.out.tr_cell hzK).2.2
                have ZK := hid hzK
                have SK := hid (SO.out (h) _ hzK)
                have hp := posL_at hzK
                have hl := mid_step (m := 20000) G.out.g G.out.nc G.out.yo.rc G.out.yr (LS.out.1 (fun h => absurd h.2 (by have := HJ.out; omega))) (SQ.out j (by rw [← HN.out]; exact HLT.out)) (SQ.out (j + 1) (by rw [← HN.out]; have := HP0.out; have := HJ.out; omega)) (by rw [posL_at (List.getElem?_eq_getElem (show j < l.length by rw [← HN.out]; exact HLT.out))]; exact (SO.out j _ (List.getElem?_eq_getElem _)).2.1.1) (by have := SK.out.2.2; rw [HH.out, hp]; dsimp only; omega) (by have := NM.out; have := NN.out; have := HLT.out; omega)
                rw [show posL l (j + 1 + 1) = posL l (h + 1) by rw [HH.out]] at hl
                rw [hp] at hl
                have HL := hid hl
                have HP := hid hp
                clear hzK hl hp
                go_wp2_with fail
                refine wp_region_turn (C := fun w' => ∃ x : Later wl, w' = x.w) 16 _ (by kernel_rfl) (by kernel_rfl) rfl rfl ⟨⟨_, (Below.refl _ _).drew⟩, rfl⟩ ?_
                simp only [List.take_succ_cons, List.take_zero, List.drop_succ_cons, List.drop_zero]
                repeat (go_big_quiet_step (fail))
                refine wpQuiet_nil ?_
                intro wt hwt KK hKK
                have HK := hid hKK
                clear hKK
                obtain ⟨⟨wt, hbt⟩, rfl⟩ := hwt
                have TWt := hid (TW.out.still hbt)
                clear hbt TW a0 a1 a2
                go_wp2_with fail
                refine (openl_g (t := ⟨#[UInt8.ofNat (h)]⟩) (e := eK) (n := nK) (c := cK) SK.out.2.1.1 SK.out.2.1.2 (by have := SK.out.2.2; omega) SK.out.1 HL.out.1 G.out TWt.out).mono ?_
                rintro e w3 ⟨M3, rfl, h1, h2, h3, h4⟩
                clear TWt
                have TW := hid h1
                replace G := hid h2
                replace SO := hid (SO.out.ext h3)
                replace NM := hid (show M3.length ≤ 132 + 9 * j by have := NM.out; omega)
                clear h1 h2 h3 h4
                go_wp2_with fail
                refine HK.out _ _ ⟨fun w' => w' = w3, rfl, ?_⟩
                clear HK
                repeat (go_big_quiet_step (fail))
                refine wpQuiet_nil ?_
                rintro w3 rfl
                obtain ⟨wp, hwp⟩ : ∃ wp, w3.heap.size = wp := ⟨_, rfl⟩
                have cvt := str_one (w := w3) (h) hwp
                go_wp2_with fail
                go_roundw
                case rel => exact ⟨j + 1, _, M3, (by have := HLT.out; omega), by go_num, hid (TW.out.still ((Below.refl _ _).alloc (Nat.le_refl _) _)), G, SO, hid (⟨fun h => absurd ⟨trivial, by have := HJ.out; omega⟩ h, fun _ => by rw [show j + 1 + 1 = h + 1 by rw [HH.out], HP.out]; exact HL.out.2⟩), hid (by have := NM.out; omega)⟩
                case measure => have := HLT.out; simp [intOf]; omega
              · obtain ⟨h, hh⟩ : ∃ h, j = h + 1 := ⟨j - 1, by omega⟩
                have bx : bits .xor .i64 (j : Int) 1 = ((h : Nat) : Int) := by have := xor_one ⟨j, by have := HLT.out; have := NN.out; omega⟩; dsimp only at this; rw [if_neg hj2, hh] at this; rw [hh]; exact this
                have HJ := hid hj2
                have HH := hid hh
                clear hj2 hh
                have k0 : (0 : Int) ≤ ((h : Nat) : Int) := by omega
                have k1 : ((h : Nat) : Int) < (n : Int) := by have := HLT.out; have := HH.out; omega
                have v5 : IntKind.u8.wrap ((h : Nat) : Int) = (h : Nat) := IntWalk.u8_in _ (by have := NN.out; have := HLT.out; have := HH.out; omega)
                obtain ⟨⟨eK, nK, cK⟩, hzK⟩ : ∃ u, l[h]? = some u := ⟨l[h]'(by rw [← HN.out]; have := HLT.out; have := HH.out; omega), List.getElem?_eq_getElem _⟩
                have a0 : ∀ x : Later wl, x.w.cell? ⟨g1, (h) * 3, none⟩ = some (.int .i64 eK) := fun x => x.cell (TW.out.tr_cell hzK).1
                have a1 : ∀ x : Later wl, x.w.cell? ⟨g1, (h) * 3 + 1, none⟩ = some (.int .i64 nK) := fun x => x.cell (TW.out.tr_cell hzK).2.1
                have a2 : ∀ x : Later wl, x.w.cell? ⟨g1, (h) * 3 + 2, none⟩ = some (.int .i64 cK) := fun x => x.cell (TW.out.tr_cell hzK).2.2
                have ZK := hid hzK
                have SK := hid (SO.out (h) _ hzK)
                have hp := posL_at hzK
                have hl := mid_done (m := 20000) G.out.nc G.out.yr (LS.out.2 ⟨trivial, by have := HJ.out; omega, by rw [← HN.out]; exact HLT.out⟩) (by have := NM.out; have := NN.out; have := HLT.out; omega)
                rw [show posL l j = posL l (h + 1) by rw [HH.out]] at hl
                rw [hp] at hl
                have HL := hid hl
                have HP := hid hp
                clear hzK hl hp
                go_wp2_with fail
                refine wp_region_turn (C := fun w' => ∃ x : Later wl, w' = x.w) 16 _ (by kernel_rfl) (by kernel_rfl) rfl rfl ⟨⟨_, (Below.refl _ _).drew⟩, rfl⟩ ?_
                simp only [List.take_succ_cons, List.take_zero, List.drop_succ_cons, List.drop_zero]
                repeat (go_big_quiet_step (fail))
                refine wpQuiet_nil ?_
                intro wt hwt KK hKK
                have HK := hid hKK
                clear hKK
                obtain ⟨⟨wt, hbt⟩, rfl⟩ := hwt
                have TWt := hid (TW.out.still hbt)
                clear hbt TW a0 a1 a2
                go_wp2_with fail
                refine (openl_g (t := ⟨#[UInt8.ofNat (h)]⟩) (e := eK) (n := nK) (c := cK) SK.out.2.1.1 SK.out.2.1.2 (by have := SK.out.2.2; omega) SK.out.1 HL.out.1 G.out TWt.out).mono ?_
                rintro e w3 ⟨M3, rfl, h1, h2, h3, h4⟩
                clear TWt
                have TW := hid h1
                replace G := hid h2
                replace SO := hid (SO.out.ext h3)
                replace NM := hid (show M3.length ≤ 132 + 9 * j by have := NM.out; omega)
                clear h1 h2 h3 h4
                go_wp2_with fail
                refine HK.out _ _ ⟨fun w' => w' = w3, rfl, ?_⟩
                clear HK
                repeat (go_big_quiet_step (fail))
                refine wpQuiet_nil ?_
                rintro w3 rfl
                obtain ⟨wp, hwp⟩ : ∃ wp, w3.heap.size = wp := ⟨_, rfl⟩
                have cvt := str_one (w := w3) (h) hwp
                go_wp2_with fail
                go_roundw
                case rel => exact ⟨j + 1, _, M3, (by have := HLT.out; omega), by go_num, hid (TW.out.still ((Below.refl _ _).alloc (Nat.le_refl _) _)), G, SO, hid (⟨fun _ => HL.out.2, fun h => absurd h.2.1 (by have := HJ.out; omega)⟩), hid (by have := NM.out; omega)⟩
                case measure => have := HLT.out; simp [intOf]; omega
            · have hd3 : decide ((p2 : Int) < (n : Int)) = false := by simp; omega
              have hd3' : decide (p2 < n) = false := by simp; omega
              have HJ : Hid (j % 2 = 0) := hid (by have := HLT.out; have := HE.out; omega)
              have HQ := hid (show ¬ j / 2 * 2 + 1 < n by rw [← HE.out]; exact hp)
              clear hp
              have k0 : (0 : Int) ≤ ((j : Nat) : Int) := by omega
              have k1 : ((j : Nat) : Int) < (n : Int) := by have := HLT.out; omega
              have v5 : IntKind.u8.wrap ((j : Nat) : Int) = (j : Nat) := IntWalk.u8_in _ (by have := NN.out; have := HLT.out; omega)
              obtain ⟨⟨eK, nK, cK⟩, hzK⟩ : ∃ u, l[j]? = some u := ⟨l[j]'(by rw [← HN.out]; have := HLT.out; omega), List.getElem?_eq_getElem _⟩
              have a0 : ∀ x : Later wl, x.w.cell? ⟨g1, (j) * 3, none⟩ = some (.int .i64 eK) := fun x => x.cell (TW.out.tr_cell hzK).1
              have a1 : ∀ x : Later wl, x.w.cell? ⟨g1, (j) * 3 + 1, none⟩ = some (.int .i64 nK) := fun x => x.cell (TW.out.tr_cell hzK).2.1
              have a2 : ∀ x : Later wl, x.w.cell? ⟨g1, (j) * 3 + 2, none⟩ = some (.int .i64 cK) := fun x => x.cell (TW.out.tr_cell hzK).2.2
              have ZK := hid hzK
              have SK := hid (SO.out (j) _ hzK)
              have hp := posL_at hzK
              have hl := live_step (m := 20000) G.out.g G.out.nc G.out.yo.rc G.out.yr (LS.out.1 (fun h => absurd h.2 (by have := HJ.out; omega))) (SQ.out j (by rw [← HN.out]; exact HLT.out)) (by have := SK.out.2.1.1; rw [hp]; exact this) (by have := SK.out.2.2; rw [hp]; dsimp only; omega) (by have := NM.out; have := NN.out; have := HLT.out; omega)
              rw [hp] at hl
              have HL := hid hl
              have HP := hid hp
              clear hzK hl hp
              go_wp2_with fail
              refine wp_region_turn (C := fun w' => ∃ x : Later wl, w' = x.w) 16 _ (by kernel_rfl) (by kernel_rfl) rfl rfl ⟨⟨_, (Below.refl _ _).drew⟩, rfl⟩ ?_
              simp only [List.take_succ_cons, List.take_zero, List.drop_succ_cons, List.drop_zero]
              repeat (go_big_quiet_step (fail))
              refine wpQuiet_nil ?_
              intro wt hwt KK hKK
              have HK := hid hKK
              clear hKK
              obtain ⟨⟨wt, hbt⟩, rfl⟩ := hwt
              have TWt := hid (TW.out.still hbt)
              clear hbt TW a0 a1 a2
              go_wp2_with fail
              refine (openl_g (t := ⟨#[UInt8.ofNat (j)]⟩) (e := eK) (n := nK) (c := cK) SK.out.2.1.1 SK.out.2.1.2 (by have := SK.out.2.2; omega) SK.out.1 HL.out.1 G.out TWt.out).mono ?_
              rintro e w3 ⟨M3, rfl, h1, h2, h3, h4⟩
              clear TWt
              have TW := hid h1
              replace G := hid h2
              replace SO := hid (SO.out.ext h3)
              replace NM := hid (show M3.length ≤ 132 + 9 * j by have := NM.out; omega)
              clear h1 h2 h3 h4
              go_wp2_with fail
              refine HK.out _ _ ⟨fun w' => w' = w3, rfl, ?_⟩
              clear HK
              repeat (go_big_quiet_step (fail))
              refine wpQuiet_nil ?_
              rintro w3 rfl
              obtain ⟨wp, hwp⟩ : ∃ wp, w3.heap.size = wp := ⟨_, rfl⟩
              have cvt := str_one (w := w3) (j) hwp
              go_wp2_with fail
              go_roundw
              case rel => exact ⟨j + 1, _, M3, (by have := HLT.out; omega), by go_num, hid (TW.out.still ((Below.refl _ _).alloc (Nat.le_refl _) _)), G, SO, hid (⟨fun _ => by rw [HP.out]; exact HL.out.2, fun h => absurd h.2.2 (by rw [← HN.out]; have := HQ.out; have := HLT.out; have := HJ.out; omega)⟩), hid (by have := NM.out; omega)⟩
              case measure => have := HLT.out; simp [intOf]; omega
          · have hd1 : decide ((j : Int) < (n : Int)) = false := by simp; omega
            have hd1' : decide (j < n) = false := by simp; omega
            clear hlt hj
            go_wp2_with fail
            refine (fixed19_calls _).mono ?_
            rintro e w6 ⟨rfl, h1⟩
            have T2 := hid (TW.out.below.trans (h1.mono TW.out.below.size))
            clear h1
            go_wp2_with fail
            go_ret
            exact ⟨rfl, T2.out⟩
      · have e2 : (r2 == 1) = false := by simpa using ho
        have HO := hid ho
        clear ho
        go_wp2_with fail
        clear hd1 hd1'
        try clear hd2
        go_loopw [13] (fun q wr => ∃ (j : Nat) (y : Se) (M : List T), j ≤ n ∧ q = .int .i64 j ∧ Hid (Two W wr b pa pb x y M 20000 [RowR 55 3 (.slice (some ⟨g1, 0, none⟩) n c1) n (trC l)]) ∧ Hid (Good2 M x y) ∧ Hid (SentOk M l) ∧ Hid (LvSt y.rc l False j) ∧ Hid (M.length ≤ 123 + 9 * j)) (fun q _ => n - (intOf q).toNat)
        case atStart => exact ⟨0, _, _, by omega, rfl, TW, G, SO, hid ⟨fun _ => ⟨rfl, rfl⟩, fun h => absurd h.2.1 (by decide)⟩, hid (by have := NL.out; omega)⟩
        case round =>
          clear TW G SO NL
          obtain ⟨j, y, M, hj, rfl, TW, G, SO, LS, NM⟩ := hrel
          obtain ⟨wl, hwl⟩ : ∃ wl : World, wl = wr := ⟨_, rfl⟩
          rw [← hwl] at TW ⊢
          clear hwl wr
          by_cases hlt : j < n
          · have hd1 : decide ((j : Int) < (n : Int)) = true := by simp; omega
            have hd1' : decide (j < n) = true := by simp; omega
            have z4 : IntKind.i64.wrap ((j : Int) + 1) = (j : Int) + 1 := IntWalk.i64_in _ (by have := NN.out; omega)
            have HLT := hid hlt
            clear hlt hj
            have k0 : (0 : Int) ≤ ((j : Nat) : Int) := by omega
            have k1 : ((j : Nat) : Int) < (n : Int) := by have := HLT.out; omega
            have v5 : IntKind.u8.wrap ((j : Nat) : Int) = (j : Nat) := IntWalk.u8_in _ (by have := NN.out; have := HLT.out; omega)
            obtain ⟨⟨eK, nK, cK⟩, hzK⟩ : ∃ u, l[j]? = some u := ⟨l[j]'(by rw [← HN.out]; have := HLT.out; omega), List.getElem?_eq_getElem _⟩
            have a0 : ∀ x : Later wl, x.w.cell? ⟨g1, (j) * 3, none⟩ = some (.int .i64 eK) := fun x => x.cell (TW.out.tr_cell hzK).1
            have a1 : ∀ x : Later wl, x.w.cell? ⟨g1, (j) * 3 + 1, none⟩ = some (.int .i64 nK) := fun x => x.cell (TW.out.tr_cell hzK).2.1
            have a2 : ∀ x : Later wl, x.w.cell? ⟨g1, (j) * 3 + 2, none⟩ = some (.int .i64 cK) := fun x => x.cell (TW.out.tr_cell hzK).2.2
            have ZK := hid hzK
            have SK := hid (SO.out (j) _ hzK)
            have hp := posL_at hzK
            have hl := live_step (m := 20000) G.out.g G.out.nc G.out.yo.rc G.out.yr (LS.out.1 (fun h => h.1)) (SQ.out j (by rw [← HN.out]; exact HLT.out)) (by have := SK.out.2.1.1; rw [hp]; exact this) (by have := SK.out.2.2; rw [hp]; dsimp only; omega) (by have := NM.out; have := NN.out; have := HLT.out; omega)
            rw [hp] at hl
            have HL := hid hl
            have HP := hid hp
            clear hzK hl hp
            go_wp2_with fail
            refine wp_region_turn (C := fun w' => ∃ x : Later wl, w' = x.w) 16 _ (by kernel_rfl) (by kernel_rfl) rfl rfl ⟨⟨_, (Below.refl _ _).drew⟩, rfl⟩ ?_
            simp only [List.take_succ_cons, List.take_zero, List.drop_succ_cons, List.drop_zero]
            repeat (go_big_quiet_step (fail))
            refine wpQuiet_nil ?_
            intro wt hwt KK hKK
            have HK := hid hKK
            clear hKK
            obtain ⟨⟨wt, hbt⟩, rfl⟩ := hwt
            have TWt := hid (TW.out.still hbt)
            clear hbt TW a0 a1 a2
            go_wp2_with fail
            refine (openl_g (t := ⟨#[UInt8.ofNat (j)]⟩) (e := eK) (n := nK) (c := cK) SK.out.2.1.1 SK.out.2.1.2 (by have := SK.out.2.2; omega) SK.out.1 HL.out.1 G.out TWt.out).mono ?_
            rintro e w3 ⟨M3, rfl, h1, h2, h3, h4⟩
            clear TWt
            have TW := hid h1
            replace G := hid h2
            replace SO := hid (SO.out.ext h3)
            replace NM := hid (show M3.length ≤ 132 + 9 * j by have := NM.out; omega)
            clear h1 h2 h3 h4
            go_wp2_with fail
            refine HK.out _ _ ⟨fun w' => w' = w3, rfl, ?_⟩
            clear HK
            repeat (go_big_quiet_step (fail))
            refine wpQuiet_nil ?_
            rintro w3 rfl
            obtain ⟨wp, hwp⟩ : ∃ wp, w3.heap.size = wp := ⟨_, rfl⟩
            have cvt := str_one (w := w3) (j) hwp
            go_wp2_with fail
            go_roundw
            case rel => exact ⟨j + 1, _, M3, (by have := HLT.out; omega), by go_num, hid (TW.out.still ((Below.refl _ _).alloc (Nat.le_refl _) _)), G, SO, hid (⟨fun _ => by rw [HP.out]; exact HL.out.2, fun h => absurd h.1 id⟩), hid (by have := NM.out; omega)⟩
            case measure => have := HLT.out; simp [intOf]; omega
          · have hd1 : decide ((j : Int) < (n : Int)) = false := by simp; omega
            have hd1' : decide (j < n) = false := by simp; omega
            clear hlt hj
            go_wp2_with fail
            refine (fixed19_calls _).mono ?_
            rintro e w6 ⟨rfl, h1⟩
            have T2 := hid (TW.out.below.trans (h1.mono TW.out.below.size))
            clear h1
            go_wp2_with fail
            go_ret
            exact ⟨rfl, T2.out⟩
theorem sessLive_walk (ad : Option Addr) (len cap : Nat) (zs : List Int) (W : World) (hlen : len = zs.length) (hmax : len ≤ maxLen) (hzs : NumsIn .u8 W ad zs) :
    Calls Try.prog 11 #[.slice ad len cap] W fun e w' => e = .returned (.bool true) ∧ Below W.heap.size W w' :=
  (Nat.lt_or_ge 40 len).symm.elim (fun h => sessLive_walkA ad len cap zs W hlen hmax hzs h) (fun h => sessLive_walkB ad len cap zs W hlen hmax hzs h)
end Go.Proofs.Ytpcfmafokkffgaa
