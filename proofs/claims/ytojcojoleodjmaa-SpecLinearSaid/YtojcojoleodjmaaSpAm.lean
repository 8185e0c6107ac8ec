/-
  spec: contracts of the document's All, Linear; of few; of slices.EqualFunc at two slices of the same orders. Condition: few orders.
-/
import Derived.Test.YtojcojoleodjmaaSpAl
import Derived.Test.YtojcojoleodjmaaSpWider
namespace Go.Proofs.Ytojcojoleodjmaa
open Go.RowKit Go.Shelf Go.Sh
attribute [local go_sem ↓] Go.wp_at_zero Go.wp_at_succ

def AllPost (B : Nat) (w0 : World) (F : List (Nat × Obj)) (xss : List (List Int)) (c : Int) (e : Ending) (w' : World) : Prop := ∃ v L, e = .returned (.tuple #[v, .int .i64 c]) ∧ SlL v xss L ∧ Sh.Own B w0 w' (L ++ F)

theorem may_first {kind : Int} {xs : List C6} (h : knownB kind = false) : mayR kind xs = 1 := by unfold mayR; rw [h]; rfl
theorem may_second {kind : Int} {xs : List C6} (h : knownB kind = true) (h2 : checkR xs ≠ 0) : mayR kind xs = checkR xs := by unfold mayR; rw [if_pos h, if_neg h2]
theorem may_third {kind : Int} {xs : List C6} (h : knownB kind = true) (h2 : checkR xs = 0) (h3 : 8 < xs.length) : mayR kind xs = 3 := by unfold mayR; rw [if_pos h, if_pos h2, if_pos h3]
theorem may_fourth {kind : Int} {xs : List C6} (h : knownB kind = true) (h2 : checkR xs = 0) (h3 : ¬ 8 < xs.length) : mayR kind xs = 0 := by unfold mayR; rw [if_pos h, if_pos h2, if_neg h3]
theorem allT_none {kind : Int} {xs : List C6} (h : mayR kind xs ≠ 0) : allT kind xs = [] := by unfold allT; rw [if_neg h]

set_option maxRecDepth 100000 in
set_option maxHeartbeats 4000000 in
theorem all34 (B : Nat) (w0 : World) (F : List (Nat × Obj)) (kind : Int) (ao : Option Addr) (nn cap : Nat) (xs : List C6) (w : World) (hR : RdA B w0 F (.slice ao nn cap) xs) (hO : Sh.Own B w0 w F) (hnc : nn ≤ cap) (hx : xs.length ≤ 900) (hnx : xs.length = nn) (hN : xs.length ≤ 5 ∨ 8 < xs.length) :
    Calls Try.prog 34 #[.int .i64 kind, .slice ao nn cap] w (AllPost B w0 F (allT kind xs) (mayR kind xs)) := by
  have HC := Lib.hid (check39 B w0 F xs (.slice ao nn cap) w (hR w hO) hO (by omega) (cap_of hnc))
  have HALL := Lib.hid (fun w (hO : Sh.Own B w0 w F) (hl : (allD kind xs (xs.length + 1) []).length ≤ 100000) => all58 B w0 kind ao nn cap xs hnc hx hnx (xs.length + 1) [] (.slice none 0 0) [] [] (.slice none 0 0) [] F w (by simp) (by simp) List.nodup_nil hR Sl.nil (by simp) slL_nil hO (by simpa using hl))
  have HO := Lib.hid hO
  obtain ⟨c, hc⟩ : ∃ c, checkR xs = c := ⟨_, rfl⟩
  rw [hc] at HC
  obtain ⟨T, hT⟩ : ∃ T, allT kind xs = T := ⟨_, rfl⟩
  obtain ⟨M, hM⟩ : ∃ M, mayR kind xs = M := ⟨_, rfl⟩
  have HT := Lib.hid hT
  have HM := Lib.hid hM
  rw [hT, hM]
  clear hT hM
  cases hk : knownB kind with
  | false =>
    have hm := may_first (xs := xs) hk
    have HT1 := Lib.hid (show T = [] by rw [← HT.out, allT_none (by rw [hm]; decide)])
    have HM1 := Lib.hid (show M = 1 by rw [← HM.out, hm])
    have k1 : (kind != 1) = true := by unfold knownB at hk; simp at hk ⊢; exact hk.1
    have k2 : (kind != 2) = true := by unfold knownB at hk; simp at hk ⊢; exact hk.2
    clear hR hO hk hc hm hnx hN HC HALL
    go_enter Try.func34, Try.ntmps34
    go_wp2
    refine bodyPost_ret (v := .tuple #[.slice none 0 0, .int .i64 1]) (by simp [results, Try.results34, go_sem]) rfl ?_
    rw [HT1.out, HM1.out]
    exact ⟨_, [], rfl, slL_nil, HO.out⟩
  | true =>
    have hkn : (kind != 1) = false ∨ ((kind != 1) = true ∧ (kind != 2) = false) := by
      unfold knownB at hk
      by_cases h : kind = 1
      · exact .inl (by simp [h])
      · exact .inr (by simp [h] at hk ⊢; exact hk)
    have HK := Lib.hid hk
    have HCC := Lib.hid hc
    have HNX := Lib.hid hnx
    clear hR hO hk hc hnx
    go_enter Try.func34, Try.ntmps34
    go_upto_region 1 with fail
    go_cut [12] (fun s12 wx => s12 = .bool false ∧ wx = w)
    case first =>
      rcases hkn with k1 | ⟨k1, k2⟩
      · go_wp2
        go_meet
        exact ⟨rfl, rfl⟩
      · go_wp2
        go_meet
        exact ⟨rfl, rfl⟩
    case rest =>
      obtain ⟨rfl, hW⟩ := hcut
      subst hW
      clear hkn
      by_cases h0 : c = 0
      · subst h0
        by_cases h8 : 8 < nn
        · have hm := may_third HK.out HCC.out (by have := HNX.out; omega)
          have HT1 := Lib.hid (show T = [] by rw [← HT.out, allT_none (by rw [hm]; decide)])
          have HM1 := Lib.hid (show M = 3 by rw [← HM.out, hm])
          have b1 : decide ((8 : Int) < nn) = true := by simp; omega
          have b2 : decide (8 < nn) = true := by simp; omega
          clear hm h8 hN HALL
          go_wp2_with (go_at_call 39; refine HC.out.mono ?_; rintro e w1 ⟨rfl, hO1, _⟩)
          refine bodyPost_ret (v := .tuple #[.slice none 0 0, .int .i64 3]) (by simp [results, Try.results34, go_sem]) rfl ?_
          rw [HT1.out, HM1.out]
          exact ⟨_, [], rfl, slL_nil, hO1⟩
        · have hm := may_fourth HK.out HCC.out (by have := HNX.out; omega)
          have hl := allT_len (kind := kind) hN
          rw [allT_eq hm] at hl
          have HT1 := Lib.hid (show T = allD kind xs (xs.length + 1) [] by rw [← HT.out, allT_eq hm])
          have HM1 := Lib.hid (show M = 0 by rw [← HM.out, hm])
          have b1 : decide ((8 : Int) < nn) = false := by simp; omega
          have b2 : decide (8 < nn) = false := by simp; omega
          have HL := Lib.hid (show (allD kind xs (xs.length + 1) []).length ≤ 100000 by omega)
          clear hm h8 hN hl
          go_wp2_with (first
            | (go_at_call 39; refine HC.out.mono ?_; rintro e w1 ⟨rfl, hO1, _⟩)
            | (go_at_call 58; refine (HALL.out _ hO1 HL.out).mono ?_; rintro e w2 ⟨v, L, rfl, hS, hO2⟩))
          refine bodyPost_ret (v := .tuple #[v, .int .i64 0]) (by simp [results, Try.results34, go_sem]) rfl ?_
          rw [HT1.out, HM1.out]
          exact ⟨_, L, rfl, by simpa using hS, hO2⟩
      · have hb : (c != 0) = true := by simp [h0]
        have hm := may_second HK.out (by rw [HCC.out]; exact h0)
        have HT1 := Lib.hid (show T = [] by rw [← HT.out, allT_none (by rw [hm, HCC.out]; exact h0)])
        have HM1 := Lib.hid (show M = c by rw [← HM.out, hm, HCC.out])
        clear hm h0 hN HALL
        go_wp2_with (go_at_call 39; refine HC.out.mono ?_; rintro e w1 ⟨rfl, hO1, _⟩)
        refine bodyPost_ret (v := .tuple #[.slice none 0 0, .int .i64 c]) (by simp [results, Try.results34, go_sem]) rfl ?_
        rw [HT1.out, HM1.out]
        exact ⟨_, [], rfl, slL_nil, hO1⟩

theorem sl_sub {α : Type} {e : TypeId} {k : Nat} {enc : α → List Value} {v : Value} {xs : List α} {L M : List (Nat × Obj)} (h : Sl e k enc v xs L) (hs : ∀ p ∈ L, p ∈ M) : L.Sublist M := by
  rcases h with ⟨_, _, rfl⟩ | ⟨g, off, cap, cur, _, rfl, _⟩
  · exact List.nil_sublist _
  · exact List.singleton_sublist.2 (hs _ (by simp))

/-- What a reader of a slice of orders sees, as long as these blocks stand. -/
def RdL (B : Nat) (w0 : World) (F : List (Nat × Obj)) (v : Value) (xss : List (List Int)) : Prop :=
  ∃ ss : List SV, ss.length = xss.length ∧ (∀ w', Sh.Own B w0 w' F → Rd w' S1 v ss) ∧ ∀ (i : Nat) (x : List Int), xss[i]? = some x → ∃ s, ss[i]? = some s ∧ ∀ w', Sh.Own B w0 w' F → Rd w' I (sv s) x
theorem slL_rd {B : Nat} {w0 : World} {F L : List (Nat × Obj)} {v : Value} {xss : List (List Int)} (h : SlL v xss L) (hL : ∀ p ∈ L, p ∈ F) : RdL B w0 F v xss := by
  obtain ⟨ss, L0, Lin, h1, h2, rfl⟩ := h
  refine ⟨ss, h2.1, fun w' hw => sl_rd6 h1 (fun p hp => hw.get p (hL p (List.mem_append_left _ hp))), fun i x hx => ?_⟩
  obtain ⟨s, Li, h3, h4, h5⟩ := h2.2 i x hx
  exact ⟨s, h3, fun w' hw => sl_rd6 h4 (fun p hp => hw.get p (hL p (List.mem_append_right _ (h5 p hp))))⟩
theorem rdL_take {B : Nat} {w0 : World} {F : List (Nat × Obj)} {ao : Option Addr} {n cap : Nat} {xss : List (List Int)} (h : RdL B w0 F (.slice ao n cap) xss) (k : Nat) (hk : k ≤ xss.length) : RdL B w0 F (.slice ao k cap) (xss.take k) := by
  obtain ⟨ss, h1, h2, h3⟩ := h
  refine ⟨ss.take k, by simp [h1], fun w' hw => rd_take (h2 w' hw) k (by omega), fun i x hx => ?_⟩
  have hik : i < k := by have := (List.getElem?_eq_some_iff.1 hx).1; simp at this; omega
  rw [List.getElem?_take_of_lt hik] at hx
  obtain ⟨s, h4, h5⟩ := h3 i x hx
  exact ⟨s, by rw [List.getElem?_take_of_lt hik]; exact h4, h5⟩
theorem slL_form {v : Value} {xss : List (List Int)} {L : List (Nat × Obj)} (h : SlL v xss L) : ∃ ao cap, v = .slice ao xss.length cap ∧ xss.length ≤ cap := by
  obtain ⟨ss, L0, Lin, h1, h2, rfl⟩ := h
  obtain ⟨ao, cap, rfl, h3, _⟩ := h1.form
  exact ⟨ao, cap, by rw [h2.1], by rw [← h2.1]; exact h3⟩

theorem rd_s1 {w : World} {v : Value} {ss : List SV} (h : Rd w S1 v ss) : ∃ ao cap, v = .slice ao ss.length cap ∧ ∀ k (hk : k < ss.length), ∃ g off, ao = some ⟨g, off, none⟩ ∧ g < w.heap.size ∧ w.cell? ⟨g, off + k, none⟩ = some (sv ss[k]) := by
  rcases h with ⟨rfl, ao, cap, rfl⟩ | ⟨g, off, cap, rfl, h⟩
  · exact ⟨ao, cap, rfl, fun k hk => by simp at hk⟩
  · refine ⟨_, cap, rfl, fun k hk => ?_⟩
    have := h k (sv ss[k]) (by
      have h0 := flatMap_get S1_len ss k 0 (by omega)
      rw [Nat.mul_one, Nat.add_zero] at h0
      rw [h0, List.getElem?_eq_getElem hk]; rfl)
    exact ⟨g, off, rfl, World.block_lt_of_cell? _ _ this, this⟩

theorem few31 (ao : Option Addr) (n cap : Nat) (w : World) : Calls Try.prog 31 #[.slice ao n cap] w fun e w' => e = .returned (.bool (decide (n ≤ 5 ∨ (8 < n ∧ n < 40)))) ∧ w = w' := by
  by_cases h1 : n ≤ 5
  · have HR := Lib.hid (show decide (n ≤ 5 ∨ (8 < n ∧ n < 40)) = true by simp [h1])
    have b1 : decide ((n : Int) ≤ 5) = true := by simp; omega
    clear h1
    go_enter Try.func31, Try.ntmps31
    go_wp2
    go_ret
    exact ⟨by rw [HR.out]; rfl, rfl⟩
  · have b1 : decide ((n : Int) ≤ 5) = false := by simp; omega
    by_cases h2 : 8 < n
    · have b2 : decide ((8 : Int) < n) = true := by simp; omega
      have b3 : decide (8 < n) = true := by simp; omega
      have HR := Lib.hid (show decide (n ≤ 5 ∨ (8 < n ∧ n < 40)) = decide ((n : Int) < 40) by simp [h1, h2]; omega)
      clear h1 h2
      go_enter Try.func31, Try.ntmps31
      go_wp2
      go_ret
      exact ⟨by rw [HR.out]; rfl, rfl⟩
    · have b2 : decide ((8 : Int) < n) = false := by simp; omega
      have b3 : decide (8 < n) = false := by simp; omega
      have HR := Lib.hid (show decide (n ≤ 5 ∨ (8 < n ∧ n < 40)) = false by simp [h1, h2])
      clear h1 h2
      go_enter Try.func31, Try.ntmps31
      go_wp2
      go_ret
      exact ⟨by rw [HR.out]; rfl, rfl⟩

end Go.Proofs.Ytojcojoleodjmaa
