/-
  SpecLinear's walk: it returns true at every input. No condition.
-/
import Derived.Test.YtojcojoleodjmaaSpTold
import Derived.Test.YtojcojoleodjmaaSpHolds
import Derived.IntWalk
namespace Go.Proofs.Ytojcojoleodjmaa
open Go.RowKit Go.Shelf Go.Sh
attribute [local go_sem ↓] Go.wp_at_zero Go.wp_at_succ

theorem lin_len (kind : Int) (xs : List C6) (hx : xs.length ≤ 900) : (linR kind xs).a.length ≤ 1000 := by
  rw [linR_of]
  unfold linOf
  split
  · cases hT : allT kind xs with
    | nil => simp
    | cons o t =>
      have := allT_in (kind := kind) (xs := xs) (x := o) (by rw [hT]; simp)
      show o.length ≤ 1000
      omega
  · simp

theorem rdL_sub {B : Nat} {w0 : World} {F G : List (Nat × Obj)} {v : Value} {xss : List (List Int)} (h : RdL B w0 F v xss) (hs : ∀ w', Sh.Own B w0 w' G → Sh.Own B w0 w' F) : RdL B w0 G v xss := by
  obtain ⟨ss, h1, h2, h3⟩ := h
  exact ⟨ss, h1, fun w' hw => h2 w' (hs w' hw), fun i x hx => by obtain ⟨s, h4, h5⟩ := h3 i x hx; exact ⟨s, h4, fun w' hw => h5 w' (hs w' hw)⟩⟩
theorem rdL_more {B : Nat} {w0 : World} {F L : List (Nat × Obj)} {p q : Nat × Obj} {v : Value} {xss : List (List Int)} (h : RdL B w0 F v xss) : RdL B w0 (L ++ (p :: q :: F)) v xss := rdL_sub h fun _ hw => hw.right.tail.tail

set_option maxRecDepth 100000 in
set_option maxHeartbeats 8000000 in
theorem lin8 (kind : Int) (xs : List C6) (ao : Option Addr) (cp : Nat) (most : Int) (W : World) (hmo : 0 ≤ most ∧ most < 256) (hR : Rd W CC (.slice ao xs.length cp) xs) (hm : xs.length ≤ maxLen) (hcap : xs.length ≤ cp) :
    Calls Try.prog 8 #[.int .i64 kind, .slice ao xs.length cp, .int .u8 most] W (AllTrue W) := by
  unfold maxLen at hm
  have HAW := Lib.hid (fun w (hO : Sh.Own W.heap.size W w []) => awake30 W.heap.size W [] w hO)
  have HO := Lib.hid (Sh.Own.start W)
  obtain ⟨n, hn⟩ : ∃ n, xs.length = n := ⟨_, rfl⟩
  obtain ⟨mo, rfl⟩ : ∃ mo : Nat, most = (mo : Int) := ⟨most.toNat, by omega⟩
  have HF := Lib.hid (fun w => few31 ao n cp w)
  by_cases hf : n ≤ 5 ∨ (8 < n ∧ n < 40)
  · rw [show decide (n ≤ 5 ∨ (8 < n ∧ n < 40)) = true by simpa using hf] at HF
    obtain ⟨T, hT⟩ : ∃ T, allT kind xs = T := ⟨_, rfl⟩
    have htl := allT_len (kind := kind) (xs := xs) (by omega)
    rw [hT] at htl
    have HIN := Lib.hid (show ∀ x ∈ T, x.length ≤ 100000 from fun x h => by rw [← hT] at h; have := allT_in h; omega)
    have HL := Lib.hid (fun w (hO : Sh.Own W.heap.size W w []) => linear32 W.heap.size W [] kind ao xs.length cp xs w (rda_any hR) hO hcap (by omega))
    have HL2 := Lib.hid (fun w F (hO : Sh.Own W.heap.size W w F) => linear33 W.heap.size W F kind ao xs.length cp xs w (rda_any hR) hO hcap (by omega) rfl (by omega))
    have HAL := Lib.hid (fun w F (hO : Sh.Own W.heap.size W w F) => all34 W.heap.size W F kind ao xs.length cp xs w (rda_any hR) hO hcap (by omega) rfl (by omega))
    have HTO := Lib.hid (fun w F Bk Bl (M : Nat) (hM : M ≤ 2000000) (hO : Sh.Own W.heap.size W w ((Bl, obL (.slice ao xs.length cp)) :: (Bk, obK kind) :: F)) => told36 W.heap.size W F kind (.slice ao xs.length cp) xs Bk Bl M w (rda_any hR) (cap_of hcap) (by omega) hO hM)
    have HTB := Lib.hid (fun w F Bk Bl (hO : Sh.Own W.heap.size W w ((Bl, obL (.slice ao xs.length cp)) :: (Bk, obK kind) :: F)) => show Calls Try.prog 36 #[.func (.func 59) #[] #[.pointer (some ⟨Bk, 0, none⟩), .pointer (some ⟨Bl, 0, none⟩)], .int .i64 1048576] w _ from HTO.out w F Bk Bl 1048576 (by omega) hO)
    have hal := (lin_len kind xs (by omega))
    obtain ⟨r, hr⟩ : ∃ r, linR kind xs = r := ⟨_, rfl⟩
    rw [hr] at HL HL2 hal
    rw [hT] at HAL HTO HTB
    rw [hn] at HL HL2 HAL HTO HTB ⊢
    obtain ⟨a, ok, er⟩ := r
    simp only at HL HL2 hal
    have HE := Lib.hid (fun w F v1 v2 (h1 : Rd w I v1 a) (h2 : Rd w I v2 a) (hO : Sh.Own W.heap.size W w F) => equal20 W.heap.size W F a a v1 v2 w h1 h2 hO (by omega) (by omega))
    rw [show decide (a = a) = true by simp] at HE
    obtain ⟨N, hN⟩ : ∃ N, T.length = N := ⟨_, rfl⟩
    have HN := Lib.hid hN
    obtain ⟨k, hk1, hk2, hmin⟩ : ∃ k : Nat, k ≤ N ∧ k ≤ mo ∧ (if (mo : Int) < (N : Int) then (mo : Int) else (N : Int)) = (k : Int) := ⟨min N mo, by omega, by omega, by split <;> omega⟩
    have HK := Lib.hid (show T.take mo = T.take k by
      by_cases h : mo < N
      · rw [if_pos (by omega)] at hmin
        rw [show k = mo by omega]
      · rw [if_neg (by omega)] at hmin
        rw [List.take_of_length_le (by omega), List.take_of_length_le (by omega)])
    have hmin2 : (if mo < N then (mo : Int) else (N : Int)) = (k : Int) := by rw [← hmin]; simp only [Int.ofNat_lt]
    have HBIG := Lib.hid (show T.take 1048576 = T from List.take_of_length_le (by omega))
    have bo : (ok == ok) = true := by simp
    have be : (er == er) = true := by simp
    have hmo2 : (mo : Int) < 256 := hmo.2
    have hmo0 : (0 : Int) ≤ mo := by omega
    have hk0 : (0 : Int) ≤ k := by omega
    have hN5 : N ≤ 46656 := by omega
    have hmo3 : mo ≤ 2000000 := by omega
    clear hr hT hR hcap hn hm htl hf hmo hal hN
    go_enter Try.func8, Try.ntmps8
    go_upto_region 7 with (first
      | (go_at_call 30; (with_reducible refine (HAW.out _ HO.out).mono ?_); rintro e w1 ⟨rfl, hO1⟩)
      | (go_at_call 31; refine (HF.out _).mono ?_; rintro e w1' ⟨rfl, rfl⟩)
      | (go_at_call 32; (with_reducible refine (HL.out _ hO1).mono ?_); rintro e w2 ⟨v1, L1, rfl, hS1, hO2⟩; have HS1 := Lib.hid hS1; clear hS1)
      | (go_at_call 33; (with_reducible refine (HL2.out _ _ hO2).mono ?_); rintro e w3 ⟨v2, L2, rfl, hS2, hO3⟩; have HS2 := Lib.hid hS2; clear hS2)
      | (go_at_call 34; (with_reducible refine (HAL.out _ _ hO3).mono ?_); rintro e w4 ⟨v3, L3, rfl, hS3, hO4⟩; obtain ⟨aw, cw, rfl, hcw⟩ := slL_form hS3; rw [HN.out] at hS3 hcw ⊢; have HS3 := Lib.hid hS3; clear hS3))
    clear hmin hmin2
    have hkc : (k : Int) ≤ cw := by omega
    have HO4 := Lib.hid hO4
    clear hO1 hO2 hO3 hO4
    have HW3 := Lib.hid (slL_rd (B := W.heap.size) (w0 := W) (F := L3 ++ (L2 ++ (L1 ++ []))) HS3.out (fun p hp => by simp [hp]))
    have HT1 := Lib.hid (show T.length ≤ 100000 by have := HN.out; omega)
    have HT2 := Lib.hid (show k ≤ T.length by have := HN.out; omega)
    have HT3 := Lib.hid (show (T.take k).length ≤ 100000 by rw [List.length_take]; omega)
    have hwr : IntKind.i64.wrap (mo : Int) = (mo : Int) := IntWalk.i64_in _ (by omega)
    go_region_held3 (fun w' => Below W.heap.size W w') (first | exact hO10.below | exact hO9.below | exact hO8.below | exact hO7.below | exact hO6.below | exact hO5'.below | exact hO5.below | exact HO4.out.drew.below) (first
      | (go_at_call 35; (with_reducible refine (equalf35 W.heap.size W _ (T.take k) _ _ _ (slL_rd HS9.out (fun p hp => by simp [hp])) (rdL_more (rdL_more (rdL_take HW3.out k HT2.out))) hO9 HT3.out (fun x hx => HIN.out x (List.mem_of_mem_take hx))).mono ?_); rintro e w10 ⟨rfl, hO10⟩)
      | (go_at_call 36; (with_reducible refine (HTO.out _ _ _ _ mo hmo3 hO8).mono ?_); rintro e w9 ⟨v9, L9, rfl, hS9, hO9⟩; rw [HK.out] at hS9; have HS9 := Lib.hid hS9; clear hS9)
      | (go_at_call 37; refine (all37 kind ao n cp w7).mono ?_; rintro e w8 ⟨rfl, rfl⟩; have hO8 := (hO7.allocAt (obK kind) (n := w7.heap.size) rfl).allocAt (obL (.slice ao n cp)) (n := w7.heap.size + 1) (by simp))
      | (go_at_call 35; (with_reducible refine (equalf35 W.heap.size W _ T _ _ _ (slL_rd HS6.out (fun p hp => by simp [hp])) (rdL_more HW3.out) hO6 HT1.out HIN.out).mono ?_); rintro e w7 ⟨rfl, hO7⟩)
      | (go_at_call 36; (with_reducible refine (HTB.out _ _ _ _ hO5').mono ?_); rintro e w6 ⟨v6, L6, rfl, hS6, hO6⟩; rw [HBIG.out] at hS6; have HS6 := Lib.hid hS6; clear hS6)
      | (go_at_call 37; refine (all37 kind ao n cp w5).mono ?_; rintro e w5' ⟨rfl, rfl⟩; have hO5' := (hO5.allocAt (obK kind) (n := w5.heap.size) rfl).allocAt (obL (.slice ao n cp)) (n := w5.heap.size + 1) (by simp))
      | (go_at_call 20; (with_reducible refine (HE.out _ _ v1 v2 (sl_any (F := []) HS1.out _ HO4.out.drew.right.right) (sl_any (F := L1 ++ []) HS2.out _ HO4.out.drew.right) HO4.out.drew).mono ?_); rintro e w5 ⟨rfl, hO5⟩)
      | fail "no arm")
    all_goals
      clear hwr
      go_wp2
      go_ret
      exact ⟨rfl, hO10.below⟩
  · rw [show decide (n ≤ 5 ∨ (8 < n ∧ n < 40)) = false by simpa using hf] at HF
    rw [hn]
    clear hR hcap hn hm hf
    go_enter Try.func8, Try.ntmps8
    go_wp2_with (first
      | (go_at_call 30; (with_reducible refine (HAW.out _ HO.out).mono ?_); rintro e w1 ⟨rfl, hO1⟩)
      | (go_at_call 31; refine (HF.out _).mono ?_; rintro e w1' ⟨rfl, rfl⟩)
      | (go_at_call 30; (with_reducible refine (HAW.out _ hO1).mono ?_); rintro e w2 ⟨rfl, hO2⟩))
    go_ret
    exact ⟨rfl, hO2.below⟩

theorem lin8W (kind : Int) (xs : List C6) (ao : Option Addr) (cp : Nat) (most : Int) (W : World) (_ : (Lit.int .i64 kind).wf = true) (hR : Rd W CC (.slice ao xs.length cp) xs) (_ : ∀ x ∈ xs, True) (hm : xs.length ≤ maxLen) (hcap : xs.length ≤ cp)
    (hmo : (Lit.int .u8 most).wf = true) :
    Calls Try.prog 8 #[.int .i64 kind, .slice ao xs.length cp, .int .u8 most] W (fun e w' => e = .returned (.bool true) ∧ Below W.heap.size W w') :=
  lin8 kind xs ao cp most W (u8_bounds hmo) hR hm hcap

end Go.Proofs.Ytojcojoleodjmaa
