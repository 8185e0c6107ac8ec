/-
  SpecMay's walk: it returns true at every input. No condition.
-/
import Derived.Test.YtojcojoleodjmaaSpS
namespace Go.Proofs.Ytojcojoleodjmaa
open Go.RowKit Go.Shelf Go.Sh
attribute [local go_sem ↓] Go.wp_at_zero Go.wp_at_succ

/-- A law's last word: true; what there was is as it was. -/
def AllTrue (w : World) (e : Ending) (w' : World) : Prop := e = .returned (.bool true) ∧ Below w.heap.size w w'
theorem rda_start {W : World} {lv : Value} {xs : List C6} (h : Rd W CC lv xs) : RdA W.heap.size W [] lv xs := fun _ hw => h.later hw.below
theorem rdi_start {W : World} {lv : Value} {ks : List Int} (h : Rd W I lv ks) : ∀ w', Sh.Own W.heap.size W w' [] → Rd w' I lv ks := fun _ hw => h.later hw.below

set_option maxRecDepth 100000 in
set_option maxHeartbeats 4000000 in
theorem may9 (kind : Int) (xs : List C6) (ao : Option Addr) (cp : Nat) (ks : List Int) (ao2 : Option Addr) (cp2 : Nat) (W : World) (hR : Rd W CC (.slice ao xs.length cp) xs) (hm : xs.length ≤ maxLen) (hcap : xs.length ≤ cp) (hK : Rd W I (.slice ao2 ks.length cp2) ks) (hm2 : ks.length ≤ maxLen) :
    Calls Try.prog 9 #[.int .i64 kind, .slice ao xs.length cp, .slice ao2 ks.length cp2] W (AllTrue W) := by
  unfold maxLen at hm hm2
  have HAW := Lib.hid (fun w (hO : Sh.Own W.heap.size W w []) => awake30 W.heap.size W [] w hO)
  have HO := Lib.hid (Sh.Own.start W)
  by_cases hbig : 60 < xs.length ∨ 100 < ks.length
  · rcases hbig with h | h
    · have b1 : decide ((60 : Int) < xs.length) = true := by simp; omega
      have b2 : decide (60 < xs.length) = true := by simp; omega
      clear hR hK hcap h
      go_enter Try.func9, Try.ntmps9
      go_wp2_with (first
        | (go_at_call 30; (with_reducible refine (HAW.out _ HO.out).mono ?_); rintro e w1 ⟨rfl, hO1⟩)
        | (go_at_call 30; (with_reducible refine (HAW.out _ hO1).mono ?_); rintro e w2 ⟨rfl, hO2⟩))
      go_ret
      exact ⟨rfl, hO2.below⟩
    · by_cases h1 : 60 < xs.length
      · have b1 : decide ((60 : Int) < xs.length) = true := by simp; omega
        have b2 : decide (60 < xs.length) = true := by simp; omega
        clear hR hK hcap h h1
        go_enter Try.func9, Try.ntmps9
        go_wp2_with (first
          | (go_at_call 30; (with_reducible refine (HAW.out _ HO.out).mono ?_); rintro e w1 ⟨rfl, hO1⟩)
          | (go_at_call 30; (with_reducible refine (HAW.out _ hO1).mono ?_); rintro e w2 ⟨rfl, hO2⟩))
        go_ret
        exact ⟨rfl, hO2.below⟩
      · have b1 : decide ((60 : Int) < xs.length) = false := by simp; omega
        have b2 : decide (60 < xs.length) = false := by simp; omega
        have b3 : decide ((100 : Int) < ks.length) = true := by simp; omega
        have b4 : decide (100 < ks.length) = true := by simp; omega
        clear hR hK hcap h h1
        go_enter Try.func9, Try.ntmps9
        go_wp2_with (first
          | (go_at_call 30; (with_reducible refine (HAW.out _ HO.out).mono ?_); rintro e w1 ⟨rfl, hO1⟩)
          | (go_at_call 30; (with_reducible refine (HAW.out _ hO1).mono ?_); rintro e w2 ⟨rfl, hO2⟩))
        go_ret
        exact ⟨rfl, hO2.below⟩
  · have h60 : xs.length ≤ 60 := by omega
    have h100 : ks.length ≤ 100 := by omega
    have b1 : decide ((60 : Int) < xs.length) = false := by simp; omega
    have b2 : decide (60 < xs.length) = false := by simp; omega
    have b3 : decide ((100 : Int) < ks.length) = false := by simp; omega
    have b4 : decide (100 < ks.length) = false := by simp; omega
    have hcp : ∀ a n c, Value.slice ao xs.length cp = .slice a n c → n ≤ c := by
      intro a n c h
      simp only [Value.slice.injEq] at h
      obtain ⟨_, rfl, rfl⟩ := h
      exact hcap
    have HC := Lib.hid (fun w (hO : Sh.Own W.heap.size W w []) => check38 W.heap.size W [] xs _ w (rda_start hR w hO) hO (by omega) hcp)
    have HD := Lib.hid (fun w (hO : Sh.Own W.heap.size W w []) => check39 W.heap.size W [] xs _ w (rda_start hR w hO) hO (by omega) hcp)
    have HA := Lib.hid (fun w (hO : Sh.Own W.heap.size W w []) => holds40 W.heap.size W [] kind ao xs.length cp xs ks _ w (rda_start hR) (rdi_start hK) hO hcap (by omega) (by omega))
    have HB := Lib.hid (fun w (hO : Sh.Own W.heap.size W w []) => holds41 W.heap.size W [] kind ao xs.length cp xs ks _ w (rda_start hR) (rdi_start hK) hO hcap (by omega) (by omega))
    rw [holdsD_eq] at HB
    obtain ⟨c, hc⟩ : ∃ c, checkR xs = c := ⟨_, rfl⟩
    obtain ⟨b, hb⟩ : ∃ b, holdsR kind xs ks = b := ⟨_, rfl⟩
    rw [hc] at HC HD
    rw [hb] at HA HB
    clear hR hK hcap hcp hc hb hbig
    go_enter Try.func9, Try.ntmps9
    go_wp2_with (first
      | (go_at_call 30; (with_reducible refine (HAW.out _ HO.out).mono ?_); rintro e w1 ⟨rfl, hO1⟩)
      | (go_at_call 38; (with_reducible refine (HC.out _ hO1).mono ?_); rintro e w2 ⟨rfl, hO2, _⟩)
      | (go_at_call 39; (with_reducible refine (HD.out _ hO2).mono ?_); rintro e w3 ⟨rfl, hO3, _⟩)
      | (go_at_call 40; (with_reducible refine (HA.out _ hO3).mono ?_); rintro e w4 ⟨rfl, hO4⟩)
      | (go_at_call 41; (with_reducible refine (HB.out _ hO4).mono ?_); rintro e w5 ⟨rfl, hO5⟩))
    go_ret
    exact ⟨by simp, hO5.below⟩

theorem may9W (kind : Int) (xs : List C6) (ao : Option Addr) (cp : Nat) (ks : List Int) (ao2 : Option Addr) (cp2 : Nat) (W : World) (_ : (Lit.int .i64 kind).wf = true) (hR : Rd W CC (.slice ao xs.length cp) xs) (_ : ∀ x ∈ xs, True) (hm : xs.length ≤ maxLen) (hcap : xs.length ≤ cp)
    (hK : Rd W I (.slice ao2 ks.length cp2) ks) (_ : ∀ x ∈ ks, True) (hm2 : ks.length ≤ maxLen) (_ : ks.length ≤ cp2) :
    Calls Try.prog 9 #[.int .i64 kind, .slice ao xs.length cp, .slice ao2 ks.length cp2] W (fun e w' => e = .returned (.bool true) ∧ Below W.heap.size W w') :=
  may9 kind xs ao cp ks ao2 cp2 W hR hm hcap hK hm2

end Go.Proofs.Ytojcojoleodjmaa
