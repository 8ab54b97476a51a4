/-
  AeadRoom returns true, and writes nothing that was there. For every input.
-/
import Derived.Test.YthbailkfhmkfoaaAeadRoom
import Derived.Test.YthbailkfhmkfoaaFixE
namespace Go.Proofs.Ythbailkfhmkfoaa
open Go.RowKit

section
variable {s : ByteArray} (hs : s.size ≤ 1000)
include hs
theorem t5_put1 : put 1 [nonT 1] (txtT s) = (0, 4, [nonT 1]) := putp_full (may_txt s hs) (by simp [nonT, txtT]) (by simp)
theorem t5_put {m : Int} (hm : 1 < m) : put m [nonT 1] (txtT s) = (2, 0, [nonT 1, txtT s]) := by
  rw [putp_new (may_txt s hs) (by simp [nonT, txtT]) (by simpa using hm)]; rfl
theorem t5_1 : text5 1 [nonT 1] 1 3 1 s = (0, 4, [nonT 1]) := by
  unfold text5
  rw [t5_put1 hs, if_pos (by decide), if_neg (by decide)]
theorem t5_2 : text5 2 [nonT 1] 1 3 1 s = (0, 4, [nonT 1, txtT s]) := by
  unfold text5
  rw [t5_put hs (by decide), if_pos (by decide), if_pos rfl]
  exact putp_full (may_sea.2 ⟨by simp, by simp, by simp⟩) (by simp [nonT, txtT, seaT]) (by simp)
theorem t5_3 {m : Int} (hm : 2 < m) : text5 m [nonT 1] 1 3 1 s = (3, 0, [nonT 1, txtT s, seaT 1 3 1 2]) := by
  unfold text5
  rw [t5_put hs (by omega), if_pos (by decide), if_pos rfl]
  rw [putp_new (may_sea.2 ⟨by simp, by simp, by simp⟩) (by simp [nonT, txtT, seaT]) (by simpa using hm)]
  rfl
end
theorem t5_read (s : ByteArray) : read5 [nonT 1, txtT s, seaT 1 3 1 2] 1 3 1 3 = (s, 0) := by
  have e : open5 [nonT 1, txtT s, seaT 1 3 1 2] 1 3 1 3 = (2, 0) := by
    unfold open5
    rw [if_pos ⟨rfl, rfl, rfl⟩]
    exact if_pos rfl
  unfold read5
  rw [e]
  rfl

set_option maxRecDepth 100000 in
set_option maxHeartbeats 16000000 in
theorem aeadRoom_0 (a0 : Int) (ha0 : 0 ≤ a0) (ha1 : a0 ≤ 255) (s : ByteArray) (W : World) (hsz : s.size ≤ maxLen) (hr : a0 % 4 = 0) :
    Calls Try.prog 19 #[.int .u8 a0, .string s] W fun e w' => e = .returned (.bool true) ∧ Below W.heap.size W w' := by
  have H := hid (Hd.refl W)
  have hsz9 := hsz
  unfold maxLen at hsz9
  clear hsz
  by_cases hs : s.size ≤ 1000
  · go_enter Try.func19, Try.ntmps19
    go_wp2_with fail
    refine (new_calls H.out (by decide) (by decide)).mono ?_
    rintro e w1 ⟨b, rfl, h1⟩
    clear H
    have H := hid h1
    clear h1
    go_wp2_with fail
    refine (put_calls _ _ _ _ _ _ H.out).mono ?_
    rw [show put 1 [] ⟨2, ⟨#[]⟩, 1, 0, 0, 0⟩ = (1, 0, [nonT 1]) from by decide +kernel]
    rintro e w2 ⟨rfl, h1⟩
    clear H
    have H := hid h1
    clear h1
    go_wp2_with fail
    refine (text_calls 1 3 1 s (by unfold maxLen; omega) H.out).mono ?_
    rw [t5_1 hs]
    rintro e w3 ⟨rfl, h1⟩
    clear H
    have H := hid h1
    clear h1
    go_wp2_with fail
    refine (get_c 2 H.out).mono ?_
    rw [show getT [nonT 1] 2 = zeroT from rfl, show getB [nonT 1] 2 = false from rfl]
    simp only [T.val, zeroT]
    rintro e w4 ⟨rfl, h1⟩
    clear H
    have H := hid h1
    clear h1
    go_wp2_with fail
    refine (len_at (Hd.al H.out)).mono ?_
    rintro e w' ⟨rfl, rfl⟩
    go_wp2_with fail
    refine (fixed5_calls (Hd.al H.out)).mono ?_
    rintro e w' ⟨rfl, h5⟩
    have H5 := hid h5
    clear h5
    go_wp2_with fail
    go_ret
    exact ⟨rfl, H5.out.below⟩
  · go_enter Try.func19, Try.ntmps19
    go_wp2_with fail
    refine (new_calls H.out (by decide) (by decide)).mono ?_
    rintro e w1 ⟨b, rfl, h1⟩
    clear H
    have H := hid h1
    clear h1
    go_wp2_with fail
    refine (put_calls _ _ _ _ _ _ H.out).mono ?_
    rw [show put 1 [] ⟨2, ⟨#[]⟩, 1, 0, 0, 0⟩ = (1, 0, [nonT 1]) from by decide +kernel]
    rintro e w2 ⟨rfl, h1⟩
    clear H
    have H := hid h1
    clear h1
    go_wp2_with fail
    refine (text_calls 1 3 1 (s.extract 0 1000) (by unfold maxLen; simp only [ByteArray.size_extract]; omega) H.out).mono ?_
    rw [t5_1 (by simp only [ByteArray.size_extract]; omega)]
    rintro e w3 ⟨rfl, h1⟩
    clear H
    have H := hid h1
    clear h1
    go_wp2_with fail
    refine (get_c 2 H.out).mono ?_
    rw [show getT [nonT 1] 2 = zeroT from rfl, show getB [nonT 1] 2 = false from rfl]
    simp only [T.val, zeroT]
    rintro e w4 ⟨rfl, h1⟩
    clear H
    have H := hid h1
    clear h1
    go_wp2_with fail
    refine (len_at (Hd.al H.out)).mono ?_
    rintro e w' ⟨rfl, rfl⟩
    go_wp2_with fail
    refine (fixed5_calls (Hd.al H.out)).mono ?_
    rintro e w' ⟨rfl, h5⟩
    have H5 := hid h5
    clear h5
    go_wp2_with fail
    go_ret
    exact ⟨rfl, H5.out.below⟩

set_option maxRecDepth 100000 in
set_option maxHeartbeats 16000000 in
theorem aeadRoom_1 (a0 : Int) (ha0 : 0 ≤ a0) (ha1 : a0 ≤ 255) (s : ByteArray) (W : World) (hsz : s.size ≤ maxLen) (hr : a0 % 4 = 1) :
    Calls Try.prog 19 #[.int .u8 a0, .string s] W fun e w' => e = .returned (.bool true) ∧ Below W.heap.size W w' := by
  have H := hid (Hd.refl W)
  have hsz9 := hsz
  unfold maxLen at hsz9
  clear hsz
  by_cases hs : s.size ≤ 1000
  · go_enter Try.func19, Try.ntmps19
    go_wp2_with fail
    refine (new_calls H.out (by decide) (by decide)).mono ?_
    rintro e w1 ⟨b, rfl, h1⟩
    clear H
    have H := hid h1
    clear h1
    go_wp2_with fail
    refine (put_calls _ _ _ _ _ _ H.out).mono ?_
    rw [show put 2 [] ⟨2, ⟨#[]⟩, 1, 0, 0, 0⟩ = (1, 0, [nonT 1]) from by decide +kernel]
    rintro e w2 ⟨rfl, h1⟩
    clear H
    have H := hid h1
    clear h1
    go_wp2_with fail
    refine (text_calls 1 3 1 s (by unfold maxLen; omega) H.out).mono ?_
    rw [t5_2 hs]
    rintro e w3 ⟨rfl, h1⟩
    clear H
    have H := hid h1
    clear h1
    go_wp2_with fail
    refine (get_c 2 H.out).mono ?_
    rw [show getT [nonT 1, txtT s] 2 = txtT s from rfl, show getB [nonT 1, txtT s] 2 = true from rfl]
    simp only [T.val, txtT]
    rintro e w4 ⟨rfl, h1⟩
    clear H
    have H := hid h1
    clear h1
    go_wp2_with fail
    refine (len_at (Hd.al H.out)).mono ?_
    rintro e w' ⟨rfl, rfl⟩
    go_wp2_with fail
    refine (fixed5_calls (Hd.al H.out)).mono ?_
    rintro e w' ⟨rfl, h5⟩
    have H5 := hid h5
    clear h5
    go_wp2_with fail
    go_ret
    exact ⟨rfl, H5.out.below⟩
  · go_enter Try.func19, Try.ntmps19
    go_wp2_with fail
    refine (new_calls H.out (by decide) (by decide)).mono ?_
    rintro e w1 ⟨b, rfl, h1⟩
    clear H
    have H := hid h1
    clear h1
    go_wp2_with fail
    refine (put_calls _ _ _ _ _ _ H.out).mono ?_
    rw [show put 2 [] ⟨2, ⟨#[]⟩, 1, 0, 0, 0⟩ = (1, 0, [nonT 1]) from by decide +kernel]
    rintro e w2 ⟨rfl, h1⟩
    clear H
    have H := hid h1
    clear h1
    go_wp2_with fail
    refine (text_calls 1 3 1 (s.extract 0 1000) (by unfold maxLen; simp only [ByteArray.size_extract]; omega) H.out).mono ?_
    rw [t5_2 (by simp only [ByteArray.size_extract]; omega)]
    rintro e w3 ⟨rfl, h1⟩
    clear H
    have H := hid h1
    clear h1
    go_wp2_with fail
    refine (get_c 2 H.out).mono ?_
    rw [show getT [nonT 1, txtT (s.extract 0 1000)] 2 = txtT (s.extract 0 1000) from rfl, show getB [nonT 1, txtT (s.extract 0 1000)] 2 = true from rfl]
    simp only [T.val, txtT]
    rintro e w4 ⟨rfl, h1⟩
    clear H
    have H := hid h1
    clear h1
    go_wp2_with fail
    refine (len_at (Hd.al H.out)).mono ?_
    rintro e w' ⟨rfl, rfl⟩
    go_wp2_with fail
    refine (fixed5_calls (Hd.al H.out)).mono ?_
    rintro e w' ⟨rfl, h5⟩
    have H5 := hid h5
    clear h5
    go_wp2_with fail
    go_ret
    exact ⟨rfl, H5.out.below⟩

set_option maxRecDepth 100000 in
set_option maxHeartbeats 16000000 in
theorem aeadRoom_2 (a0 : Int) (ha0 : 0 ≤ a0) (ha1 : a0 ≤ 255) (s : ByteArray) (W : World) (hsz : s.size ≤ maxLen) (hr : a0 % 4 = 2) :
    Calls Try.prog 19 #[.int .u8 a0, .string s] W fun e w' => e = .returned (.bool true) ∧ Below W.heap.size W w' := by
  have H := hid (Hd.refl W)
  have hsz9 := hsz
  unfold maxLen at hsz9
  clear hsz
  by_cases hs : s.size ≤ 1000
  · go_enter Try.func19, Try.ntmps19
    go_wp2_with fail
    refine (new_calls H.out (by decide) (by decide)).mono ?_
    rintro e w1 ⟨b, rfl, h1⟩
    clear H
    have H := hid h1
    clear h1
    go_wp2_with fail
    refine (put_calls _ _ _ _ _ _ H.out).mono ?_
    rw [show put 3 [] ⟨2, ⟨#[]⟩, 1, 0, 0, 0⟩ = (1, 0, [nonT 1]) from by decide +kernel]
    rintro e w2 ⟨rfl, h1⟩
    clear H
    have H := hid h1
    clear h1
    go_wp2_with fail
    refine (text_calls 1 3 1 s (by unfold maxLen; omega) H.out).mono ?_
    rw [t5_3 hs (by decide)]
    rintro e w3 ⟨rfl, h1⟩
    clear H
    have H := hid h1
    clear h1
    go_wp2_with fail
    refine (read_calls 1 3 1 3 H.out).mono ?_
    rw [t5_read s]
    rintro e w4 ⟨rfl, h1⟩
    clear H
    have H := hid h1
    clear h1
    go_wp2_with fail
    refine (len_at H.out).mono ?_
    rintro e w' ⟨rfl, rfl⟩
    go_wp2_with fail
    refine (fixed5_calls H.out).mono ?_
    rintro e w' ⟨rfl, h5⟩
    have H5 := hid h5
    clear h5
    go_wp2_with fail
    go_ret
    exact ⟨rfl, H5.out.below⟩
  · go_enter Try.func19, Try.ntmps19
    go_wp2_with fail
    refine (new_calls H.out (by decide) (by decide)).mono ?_
    rintro e w1 ⟨b, rfl, h1⟩
    clear H
    have H := hid h1
    clear h1
    go_wp2_with fail
    refine (put_calls _ _ _ _ _ _ H.out).mono ?_
    rw [show put 3 [] ⟨2, ⟨#[]⟩, 1, 0, 0, 0⟩ = (1, 0, [nonT 1]) from by decide +kernel]
    rintro e w2 ⟨rfl, h1⟩
    clear H
    have H := hid h1
    clear h1
    go_wp2_with fail
    refine (text_calls 1 3 1 (s.extract 0 1000) (by unfold maxLen; simp only [ByteArray.size_extract]; omega) H.out).mono ?_
    rw [t5_3 (by simp only [ByteArray.size_extract]; omega) (by decide)]
    rintro e w3 ⟨rfl, h1⟩
    clear H
    have H := hid h1
    clear h1
    go_wp2_with fail
    refine (read_calls 1 3 1 3 H.out).mono ?_
    rw [t5_read (s.extract 0 1000)]
    rintro e w4 ⟨rfl, h1⟩
    clear H
    have H := hid h1
    clear h1
    go_wp2_with fail
    refine (len_at H.out).mono ?_
    rintro e w' ⟨rfl, rfl⟩
    go_wp2_with fail
    refine (fixed5_calls H.out).mono ?_
    rintro e w' ⟨rfl, h5⟩
    have H5 := hid h5
    clear h5
    go_wp2_with fail
    go_ret
    exact ⟨rfl, H5.out.below⟩

set_option maxRecDepth 100000 in
set_option maxHeartbeats 16000000 in
theorem aeadRoom_3 (a0 : Int) (ha0 : 0 ≤ a0) (ha1 : a0 ≤ 255) (s : ByteArray) (W : World) (hsz : s.size ≤ maxLen) (hr : a0 % 4 = 3) :
    Calls Try.prog 19 #[.int .u8 a0, .string s] W fun e w' => e = .returned (.bool true) ∧ Below W.heap.size W w' := by
  have H := hid (Hd.refl W)
  have hsz9 := hsz
  unfold maxLen at hsz9
  clear hsz
  by_cases hs : s.size ≤ 1000
  · go_enter Try.func19, Try.ntmps19
    go_wp2_with fail
    refine (new_calls H.out (by decide) (by decide)).mono ?_
    rintro e w1 ⟨b, rfl, h1⟩
    clear H
    have H := hid h1
    clear h1
    go_wp2_with fail
    refine (put_calls _ _ _ _ _ _ H.out).mono ?_
    rw [show put 4 [] ⟨2, ⟨#[]⟩, 1, 0, 0, 0⟩ = (1, 0, [nonT 1]) from by decide +kernel]
    rintro e w2 ⟨rfl, h1⟩
    clear H
    have H := hid h1
    clear h1
    go_wp2_with fail
    refine (text_calls 1 3 1 s (by unfold maxLen; omega) H.out).mono ?_
    rw [t5_3 hs (by decide)]
    rintro e w3 ⟨rfl, h1⟩
    clear H
    have H := hid h1
    clear h1
    go_wp2_with fail
    refine (read_calls 1 3 1 3 H.out).mono ?_
    rw [t5_read s]
    rintro e w4 ⟨rfl, h1⟩
    clear H
    have H := hid h1
    clear h1
    go_wp2_with fail
    refine (len_at H.out).mono ?_
    rintro e w' ⟨rfl, rfl⟩
    go_wp2_with fail
    refine (fixed5_calls H.out).mono ?_
    rintro e w' ⟨rfl, h5⟩
    have H5 := hid h5
    clear h5
    go_wp2_with fail
    go_ret
    exact ⟨rfl, H5.out.below⟩
  · go_enter Try.func19, Try.ntmps19
    go_wp2_with fail
    refine (new_calls H.out (by decide) (by decide)).mono ?_
    rintro e w1 ⟨b, rfl, h1⟩
    clear H
    have H := hid h1
    clear h1
    go_wp2_with fail
    refine (put_calls _ _ _ _ _ _ H.out).mono ?_
    rw [show put 4 [] ⟨2, ⟨#[]⟩, 1, 0, 0, 0⟩ = (1, 0, [nonT 1]) from by decide +kernel]
    rintro e w2 ⟨rfl, h1⟩
    clear H
    have H := hid h1
    clear h1
    go_wp2_with fail
    refine (text_calls 1 3 1 (s.extract 0 1000) (by unfold maxLen; simp only [ByteArray.size_extract]; omega) H.out).mono ?_
    rw [t5_3 (by simp only [ByteArray.size_extract]; omega) (by decide)]
    rintro e w3 ⟨rfl, h1⟩
    clear H
    have H := hid h1
    clear h1
    go_wp2_with fail
    refine (read_calls 1 3 1 3 H.out).mono ?_
    rw [t5_read (s.extract 0 1000)]
    rintro e w4 ⟨rfl, h1⟩
    clear H
    have H := hid h1
    clear h1
    go_wp2_with fail
    refine (len_at H.out).mono ?_
    rintro e w' ⟨rfl, rfl⟩
    go_wp2_with fail
    refine (fixed5_calls H.out).mono ?_
    rintro e w' ⟨rfl, h5⟩
    have H5 := hid h5
    clear h5
    go_wp2_with fail
    go_ret
    exact ⟨rfl, H5.out.below⟩

theorem aeadRoom_walk (a0 : Int) (ha0 : 0 ≤ a0) (ha1 : a0 ≤ 255) (s : ByteArray) (W : World) (hsz : s.size ≤ maxLen) :
    Calls Try.prog 19 #[.int .u8 a0, .string s] W fun e w' => e = .returned (.bool true) ∧ Below W.heap.size W w' := by
  obtain h | h | h | h : a0 % 4 = 0 ∨ a0 % 4 = 1 ∨ a0 % 4 = 2 ∨ a0 % 4 = 3 := by omega
  · exact aeadRoom_0 a0 ha0 ha1 s W hsz h
  · exact aeadRoom_1 a0 ha0 ha1 s W hsz h
  · exact aeadRoom_2 a0 ha0 ha1 s W hsz h
  · exact aeadRoom_3 a0 ha0 ha1 s W hsz h
end Go.Proofs.Ythbailkfhmkfoaa
