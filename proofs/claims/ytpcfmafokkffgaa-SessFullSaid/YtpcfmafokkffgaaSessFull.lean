/-
  A walk through the statement SessFull. For every number below 256.
-/
import Derived.Test.YtpcfmafokkffgaaZ12
namespace Go.Proofs.Ytpcfmafokkffgaa
open Go.RowKit

set_option maxRecDepth 100000 in
set_option maxHeartbeats 8000000 in
theorem sessFull_walk (x0 : Int) (b0 : 0 ≤ x0) (b0' : x0 ≤ 255) (W : World) :
    Calls Try.prog 12 #[.int .u8 x0] W fun e w' => e = .returned (.bool true) ∧ Below W.heap.size W w' := by
  have z1 : IntKind.i64.wrap x0 = x0 := IntWalk.i64_in _ (by omega)
  have X0 := hid b0
  have X0' := hid b0'
  clear b0 b0'
  go_enter Try.func12, Try.ntmps12
  go_wp2_with fail
  refine (pair_two (W := W)).mono ?_
  rintro e w1 ⟨b, pa, pb, rfl, h1⟩
  have TW := hid h1
  have G := hid (good2_start h1.good)
  clear h1
  go_wp2_with fail
  go_loopw [6] (fun q wr => ∃ (i : Nat) (x y : Se) (L : List T), i ≤ 256 ∧ q = .int .i64 i ∧ Hid (Two W wr b pa pb x y L 20000 []) ∧ Hid (Good2 L x y) ∧ Hid (x.oe = 0 ∧ x.sent = i ∧ y.rc.ie = 0 ∧ (i ≤ x0 → y.rc.nx = 0) ∧ L.length ≤ 3 + 12 * i)) (fun q _ => 256 - (intOf q).toNat)
  case atStart => exact ⟨0, _, _, _, by omega, rfl, TW, G, hid ⟨rfl, rfl, rfl, fun _ => rfl, by decide⟩⟩
  case round =>
    clear TW G
    obtain ⟨i, x, y, L, hi, rfl, TW, G, S⟩ := hrel
    obtain ⟨wl, hwl⟩ : ∃ wl : World, wl = wr := ⟨_, rfl⟩
    rw [← hwl] at TW ⊢
    clear hwl wr
    by_cases hlt : i < 256
    · have hd1 : decide ((i : Int) < 256) = true := by simp; omega
      have z2 : IntKind.i64.wrap ((i : Int) + 1) = (i : Int) + 1 := IntWalk.i64_in _ (by omega)
      have HLT := hid hlt
      clear hlt hi
      by_cases he : (i : Int) = x0
      · have e1 : ((i : Int) == x0) = true := by simpa using he
        have HE := hid he
        clear he
        go_wp2_with fail
        refine (seal_g (s := ⟨#[120]⟩) (by decide) (by have := S.out.2.1; have := HLT.out; omega) (by have := S.out.2.2.2.2; have := HLT.out; omega) G.out TW.out).mono ?_
        rw [S.out.1, S.out.2.1]
        rintro e w2 ⟨c, L', rfl, h1, h2, h3, h4, h5⟩
        clear TW G
        have TW := hid h1
        have G := hid h2
        have C := hid h3
        have N5 := hid h5
        clear h1 h2 h3 h4 h5
        go_wp2_with fail
        have hr : (recv19 20000 L' y.rc 0 (i : Int)).2.2.1 = 0 ∧ (recv19 20000 L' y.rc 0 (i : Int)).1.ie = 0 := by
          have hr := recv_now (m := 20000) (n := (i : Int)) G.out.nc G.out.yr (wCan_next (by rw [S.out.2.2.2.1 (by rw [HE.out]; exact Int.le_refl _)]; omega)) (by have := S.out.2.2.2.2; have := HLT.out; have := N5.out; omega)
          rw [S.out.2.2.1] at hr
          exact ⟨hr.1, by rw [hr.2]⟩
        have HR := hid hr
        clear hr
        refine (openl_g (t := ⟨#[120]⟩) (e := 0) (n := (i : Int)) (by omega) (by have := HLT.out; omega) (by omega) C.out HR.out.1 G.out TW.out).mono ?_
        rintro e w3 ⟨L2, rfl, h1, h2, h3, h4⟩
        clear TW G
        have TW := hid h1
        have G := hid h2
        have N6 := hid h4
        clear h1 h2 h3 h4
        go_wp2_with fail
        go_roundw
        case rel => exact ⟨i + 1, _, _, _, (by have := HLT.out; omega), by go_num, TW, G, hid ⟨by first | exact S.out.1 | rfl, by dsimp only; omega, HR.out.2, fun h => by have := HE.out; omega, by have := S.out.2.2.2.2; have := N5.out; have := N6.out; omega⟩⟩
        case measure => have := HLT.out; simp [intOf]; omega
      · have e1 : ((i : Int) == x0) = false := by simpa using he
        have HE := hid he
        clear he
        go_wp2_with fail
        refine (seal_g (s := ⟨#[120]⟩) (by decide) (by have := S.out.2.1; have := HLT.out; omega) (by have := S.out.2.2.2.2; have := HLT.out; omega) G.out TW.out).mono ?_
        rw [S.out.1, S.out.2.1]
        rintro e w2 ⟨c, L', rfl, h1, h2, h3, h4, h5⟩
        clear TW G
        have TW := hid h1
        have G := hid h2
        have N5 := hid h5
        clear h1 h2 h3 h4 h5
        go_wp2_with fail
        go_roundw
        case rel => exact ⟨i + 1, _, _, _, (by have := HLT.out; omega), by go_num, TW, G, hid ⟨by first | exact S.out.1 | rfl, by dsimp only; omega, S.out.2.2.1, fun h => S.out.2.2.2.1 (by omega), by have := S.out.2.2.2.2; have := N5.out; omega⟩⟩
        case measure => have := HLT.out; simp [intOf]; omega
    · obtain rfl : i = 256 := by omega
      have hd1 : decide (((256 : Nat) : Int) < 256) = false := by decide
      clear hlt hi
      go_wp2_with fail
      refine (full_g (s := ⟨#[121]⟩) (by decide) (by rw [S.out.2.1]; decide) (by rw [S.out.1]; decide) (by have := S.out.2.2.2.2; omega) G.out TW.out).mono ?_
      rw [S.out.1]
      rintro e w2 ⟨k, c, L', rfl, h1, h2, h3, h4, h5⟩
      clear TW G
      have TW := hid h1
      have G := hid h2
      have C := hid h3
      have N5 := hid h5
      clear h1 h2 h3 h4 h5
      go_wp2_with fail
      have hr : (recv19 20000 L' y.rc (0 + 1) 0).2.2.1 = 0 ∧ (recv19 20000 L' y.rc (0 + 1) 0).1.ie = 1 := by
        obtain ⟨k, ks, hr1, hr2, hr3⟩ := recv_later (m := 20000) (e := 0 + 1) (n := 0) G.out.g G.out.nc G.out.yo.rc G.out.yr (by omega) (by rw [S.out.2.2.1]; decide) (by rw [S.out.2.2.1]; decide) (by decide) (by have := S.out.2.2.2.2; have := N5.out; omega)
        exact ⟨hr2, by rw [hr3]; rfl⟩
      have HR := hid hr
      clear hr
      refine (openl_g (t := ⟨#[121]⟩) (by omega) (by omega) (by omega) C.out HR.out.1 G.out TW.out).mono ?_
      rintro e w3 ⟨L2, rfl, h1, h2, h3, h4⟩
      clear TW G
      have TW := hid h1
      clear h1 h2 h3 h4
      go_wp2_with fail
      refine (now_two TW.out).mono ?_
      rintro e w4 ⟨rfl, h1⟩
      clear TW
      have TW := hid h1.swap
      clear h1
      go_wp2_with fail
      refine (now_two TW.out).mono ?_
      dsimp only
      rw [HR.out.2]
      rintro e w5 ⟨rfl, h1⟩
      clear TW
      have TW := hid h1
      clear h1
      go_wp2_with fail
      refine (fixed19_calls _).mono ?_
      rintro e w6 ⟨rfl, h1⟩
      have T2 := hid (TW.out.below.trans (h1.mono TW.out.below.size))
      clear h1
      go_wp2_with fail
      go_ret
      exact ⟨rfl, T2.out⟩
end Go.Proofs.Ytpcfmafokkffgaa
