/-
  SpecHolds' walk: it returns true at every input. No condition.
-/
import Derived.Test.YtojcojoleodjmaaSpU
import Derived.Test.YtojcojoleodjmaaSpMay
namespace Go.Proofs.Ytojcojoleodjmaa
open Go.RowKit Go.Shelf Go.Sh
attribute [local go_sem ↓] Go.wp_at_zero Go.wp_at_succ

theorem rda_any {W : World} {lv : Value} {xs : List C6} {F : List (Nat × Obj)} (h : Rd W CC lv xs) : RdA W.heap.size W F lv xs := fun _ hw => h.later hw.below
theorem rdi_any {W : World} {lv : Value} {ks : List Int} {F : List (Nat × Obj)} (h : Rd W I lv ks) : ∀ w', Sh.Own W.heap.size W w' F → Rd w' I lv ks := fun _ hw => h.later hw.below
theorem sl_any {B : Nat} {w0 : World} {v : Value} {a : List Int} {L F : List (Nat × Obj)} (h : Sl 3 1 I v a L) : ∀ w', Sh.Own B w0 w' (L ++ F) → Rd w' I v a := fun _ hw => sl_rd6 h (fun _ hp => hw.left.get _ hp)

set_option maxRecDepth 100000 in
set_option maxHeartbeats 4000000 in
theorem holds12 (kind : Int) (xs : List C6) (ao : Option Addr) (cp : Nat) (ks : List Int) (ao2 : Option Addr) (cp2 : Nat) (W : World) (hR : Rd W CC (.slice ao xs.length cp) xs) (hm : xs.length ≤ maxLen) (hcap : xs.length ≤ cp) (hK : Rd W I (.slice ao2 ks.length cp2) ks) (hm2 : ks.length ≤ maxLen) :
    Calls Try.prog 12 #[.int .i64 kind, .slice ao xs.length cp, .slice ao2 ks.length cp2] W (AllTrue W) := by
  unfold maxLen at hm hm2
  have HAW := Lib.hid (fun w (hO : Sh.Own W.heap.size W w []) => awake30 W.heap.size W [] w hO)
  have HO := Lib.hid (Sh.Own.start W)
  by_cases h1 : 8 < xs.length
  · have b1 : decide ((8 : Int) < xs.length) = true := by simp; omega
    have b2 : decide (8 < xs.length) = true := by simp; omega
    clear hR hK hcap h1
    go_enter Try.func12, Try.ntmps12
    go_wp2_with (first
      | (go_at_call 30; (with_reducible refine (HAW.out _ HO.out).mono ?_); rintro e w1 ⟨rfl, hO1⟩)
      | (go_at_call 30; (with_reducible refine (HAW.out _ hO1).mono ?_); rintro e w2 ⟨rfl, hO2⟩))
    go_ret
    exact ⟨rfl, hO2.below⟩
  · have b1 : decide ((8 : Int) < xs.length) = false := by simp; omega
    have b2 : decide (8 < xs.length) = false := by simp; omega
    by_cases h2 : 100 < ks.length
    · have b3 : decide ((100 : Int) < ks.length) = true := by simp; omega
      have b4 : decide (100 < ks.length) = true := by simp; omega
      clear hR hK hcap h1 h2
      go_enter Try.func12, Try.ntmps12
      go_wp2_with (first
        | (go_at_call 30; (with_reducible refine (HAW.out _ HO.out).mono ?_); rintro e w1 ⟨rfl, hO1⟩)
        | (go_at_call 30; (with_reducible refine (HAW.out _ hO1).mono ?_); rintro e w2 ⟨rfl, hO2⟩))
      go_ret
      exact ⟨rfl, hO2.below⟩
    · have b3 : decide ((100 : Int) < ks.length) = false := by simp; omega
      have b4 : decide (100 < ks.length) = false := by simp; omega
      have HL := Lib.hid (fun w (hO : Sh.Own W.heap.size W w []) => linear32 W.heap.size W [] kind ao xs.length cp xs w (rda_any hR) hO hcap (by omega))
      have HA := Lib.hid (fun w F (hO : Sh.Own W.heap.size W w F) => holds40 W.heap.size W F kind ao xs.length cp xs ks _ w (rda_any hR) (rdi_any hK) hO hcap (by omega) (by omega))
      have HB := Lib.hid (fun w F v a (ha : a.length ≤ 9) (hS : ∀ w', Sh.Own W.heap.size W w' F → Rd w' I v a) (hO : Sh.Own W.heap.size W w F) => holds40 W.heap.size W F kind ao xs.length cp xs a v w (rda_any hR) hS hO hcap (by omega) (by omega))
      have HK := Lib.hid hK
      obtain ⟨hlen, hlaw⟩ := lin_law kind xs (by omega)
      obtain ⟨r, hr⟩ : ∃ r, linR kind xs = r := ⟨_, rfl⟩
      rw [hr] at HL hlen hlaw
      obtain ⟨a, ok, er⟩ := r
      rcases hlaw with ⟨rfl, rfl, hn⟩ | ⟨rfl, rfl, hk, hc, hg, ht, hle⟩
      · simp only at hlen hn HL
        rw [hn] at HA
        clear hn hr hR hK hcap HB
        by_cases h0 : er = 0
        · subst h0
          clear h1 h2
          go_enter Try.func12, Try.ntmps12
          go_wp2_with (first
            | (go_at_call 30; (with_reducible refine (HAW.out _ HO.out).mono ?_); rintro e w1 ⟨rfl, hO1⟩)
            | (go_at_call 32; (with_reducible refine (HL.out _ hO1).mono ?_); rintro e w2 ⟨v, L', rfl, hS, hO2⟩; obtain ⟨av, cv, rfl, _, _⟩ := hS.form)
            | (go_at_call 40; (with_reducible refine (HA.out _ _ hO2).mono ?_); rintro e w4 ⟨rfl, hO4⟩))
          go_ret
          exact ⟨rfl, hO4.below⟩
        · have hb : (er != 0) = true := by simp [h0]
          clear h1 h2 h0
          go_enter Try.func12, Try.ntmps12
          go_wp2_with (first
            | (go_at_call 30; (with_reducible refine (HAW.out _ HO.out).mono ?_); rintro e w1 ⟨rfl, hO1⟩)
            | (go_at_call 32; (with_reducible refine (HL.out _ hO1).mono ?_); rintro e w2 ⟨v, L', rfl, hS, hO2⟩; obtain ⟨av, cv, rfl, _, _⟩ := hS.form)
            | (go_at_call 40; (with_reducible refine (HA.out _ _ hO2).mono ?_); rintro e w4 ⟨rfl, hO4⟩))
          go_ret
          exact ⟨rfl, hO4.below⟩
      · simp only at hlen ht hle HL
        have HTA := Lib.hid ht
        have HLE := Lib.hid hle
        obtain ⟨b, hb⟩ : ∃ b, holdsR kind xs ks = b := ⟨_, rfl⟩
        have HBB := Lib.hid hb
        rw [hb] at HA
        obtain ⟨n, hn⟩ : ∃ n, a.length = n := ⟨_, rfl⟩
        have HN := Lib.hid hn
        clear hk hc hg ht hle hr hR hK hcap hb h1 h2 hn
        cases b with
        | false =>
          go_enter Try.func12, Try.ntmps12
          go_wp2_with (first
            | (go_at_call 30; (with_reducible refine (HAW.out _ HO.out).mono ?_); rintro e w1 ⟨rfl, hO1⟩)
            | (go_at_call 32; (with_reducible refine (HL.out _ hO1).mono ?_); rintro e w2 ⟨v, L', rfl, hS, hO2⟩; obtain ⟨av, cv, rfl, _, _⟩ := hS.form; rw [HN.out] at hS ⊢; have HS := Lib.hid hS; clear hS)
            | (go_at_call 40; (with_reducible refine (HB.out _ _ _ a hlen (sl_any HS.out) hO2).mono ?_); rintro e w4 ⟨rfl, hO4⟩; rw [HTA.out])
            | (go_at_call 40; (with_reducible refine (HA.out _ _ hO4).mono ?_); rintro e w5 ⟨rfl, hO5⟩))
          go_ret
          exact ⟨rfl, hO5.below⟩
        | true =>
          have hcmp := HLE.out ks HBB.out
          obtain ⟨c, hc⟩ : ∃ c, cmpR a ks = c := ⟨_, rfl⟩
          have HC := Lib.hid hc
          rw [hc] at hcmp
          have bc : decide (c ≤ 0) = true := by simpa using hcmp
          have hal : a.length ≤ 100000 := by omega
          clear hc
          go_enter Try.func12, Try.ntmps12
          go_wp2_with (first
            | (go_at_call 30; (with_reducible refine (HAW.out _ HO.out).mono ?_); rintro e w1 ⟨rfl, hO1⟩)
            | (go_at_call 32; (with_reducible refine (HL.out _ hO1).mono ?_); rintro e w2 ⟨v, L', rfl, hS, hO2⟩; obtain ⟨av, cv, rfl, _, _⟩ := hS.form; rw [HN.out] at hS ⊢; have HS := Lib.hid hS; clear hS)
            | (go_at_call 40; (with_reducible refine (HB.out _ _ _ a hlen (sl_any HS.out) hO2).mono ?_); rintro e w4 ⟨rfl, hO4⟩; rw [HTA.out])
            | (go_at_call 40; (with_reducible refine (HA.out _ _ hO4).mono ?_); rintro e w5 ⟨rfl, hO5⟩)
            | (go_at_call 44; (with_reducible refine (compare44 a ks _ _ _ (sl_any HS.out _ hO5) (rdi_any HK.out _ hO5) hal).mono ?_); rintro e w6 ⟨rfl, rfl⟩; rw [HC.out]))
          go_ret
          exact ⟨rfl, hO5.below⟩

theorem holds12W (kind : Int) (xs : List C6) (ao : Option Addr) (cp : Nat) (ks : List Int) (ao2 : Option Addr) (cp2 : Nat) (W : World) (_ : (Lit.int .i64 kind).wf = true) (hR : Rd W CC (.slice ao xs.length cp) xs) (_ : ∀ x ∈ xs, True) (hm : xs.length ≤ maxLen) (hcap : xs.length ≤ cp)
    (hK : Rd W I (.slice ao2 ks.length cp2) ks) (_ : ∀ x ∈ ks, True) (hm2 : ks.length ≤ maxLen) (_ : ks.length ≤ cp2) :
    Calls Try.prog 12 #[.int .i64 kind, .slice ao xs.length cp, .slice ao2 ks.length cp2] W (fun e w' => e = .returned (.bool true) ∧ Below W.heap.size W w') :=
  holds12 kind xs ao cp ks ao2 cp2 W hR hm hcap hK hm2

end Go.Proofs.Ytojcojoleodjmaa
