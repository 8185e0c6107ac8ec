/-
  spec: contract of slices.Compare over ints. No condition.
-/
import Derived.Test.YtojcojoleodjmaaSpT
namespace Go.Proofs.Ytojcojoleodjmaa
open Go.RowKit Go.Shelf Go.Sh
attribute [local go_sem ↓] Go.wp_at_zero Go.wp_at_succ

theorem nan80 (x : Int) (w : World) : Calls Try.prog 80 #[.int .i64 x] w fun e w' => e = .returned (.bool false) ∧ w = w' := by
  have hb : (x != x) = false := by simp
  go_enter Try.func80, Try.ntmps80
  go_wp2
  go_ret
  exact ⟨by simp, rfl⟩

def cmp1 (x y : Int) : Int := if x < y then -1 else if y < x then 1 else 0
theorem cmp72 (x y : Int) (w : World) : Calls Try.prog 72 #[.int .i64 x, .int .i64 y] w fun e w' => e = .returned (.int .i64 (cmp1 x y)) ∧ w = w' := by
  by_cases h1 : x < y
  · have HR := Lib.hid (show cmp1 x y = -1 by unfold cmp1; rw [if_pos h1])
    go_enter Try.func72, Try.ntmps72
    go_wp2_with (first | (go_at_call 80; (with_reducible refine (nan80 x _).mono ?_); rintro e w' ⟨rfl, rfl⟩) | (go_at_call 80; (with_reducible refine (nan80 y _).mono ?_); rintro e w' ⟨rfl, rfl⟩))
    go_ret
    exact ⟨by rw [HR.out]; rfl, rfl⟩
  · by_cases h2 : y < x
    · have HR := Lib.hid (show cmp1 x y = 1 by unfold cmp1; rw [if_neg h1, if_pos h2])
      go_enter Try.func72, Try.ntmps72
      go_wp2_with (first | (go_at_call 80; (with_reducible refine (nan80 x _).mono ?_); rintro e w' ⟨rfl, rfl⟩) | (go_at_call 80; (with_reducible refine (nan80 y _).mono ?_); rintro e w' ⟨rfl, rfl⟩))
      go_ret
      exact ⟨by rw [HR.out]; rfl, rfl⟩
    · have HR := Lib.hid (show cmp1 x y = 0 by unfold cmp1; rw [if_neg h1, if_neg h2])
      go_enter Try.func72, Try.ntmps72
      go_wp2_with (first | (go_at_call 80; (with_reducible refine (nan80 x _).mono ?_); rintro e w' ⟨rfl, rfl⟩) | (go_at_call 80; (with_reducible refine (nan80 y _).mono ?_); rintro e w' ⟨rfl, rfl⟩))
      go_ret
      exact ⟨by rw [HR.out]; rfl, rfl⟩

theorem cmp_step {x y : Int} {a b : List Int} : cmpR (x :: a) (y :: b) = if cmp1 x y = 0 then cmpR a b else cmp1 x y := by
  show (if x < y then -1 else if y < x then 1 else cmpR a b) = _
  unfold cmp1
  by_cases h1 : x < y
  · simp [h1]
  · by_cases h2 : y < x
    · simp [h1, h2]
    · simp [h1, h2]

theorem rd_ints {w : World} {v : Value} {ks : List Int} (h : Rd w I v ks) : ∃ ao cap, v = .slice ao ks.length cap ∧ ∀ k (hk : k < ks.length), ∃ g off, ao = some ⟨g, off, none⟩ ∧ g < w.heap.size ∧ w.cell? ⟨g, off + k, none⟩ = some (.int .i64 ks[k]) := by
  rcases h with ⟨rfl, ao, cap, rfl⟩ | ⟨g, off, cap, rfl, h⟩
  · exact ⟨ao, cap, rfl, fun k hk => by simp at hk⟩
  · refine ⟨_, cap, rfl, fun k hk => ?_⟩
    have := h k (.int .i64 ks[k]) (by rw [flatI]; simp [hk])
    exact ⟨g, off, rfl, World.block_lt_of_cell? _ _ this, this⟩

set_option maxRecDepth 100000 in
set_option maxHeartbeats 1000000 in
theorem compare44 (xs ys : List Int) (v1 v2 : Value) (w : World) (h1 : Rd w I v1 xs) (h2 : Rd w I v2 ys) (hx : xs.length ≤ 100000) :
    Calls Try.prog 44 #[v1, v2] w fun e w' => e = .returned (.int .i64 (cmpR xs ys)) ∧ w = w' := by
  obtain ⟨a1, c1, rfl, r1⟩ := rd_ints h1
  obtain ⟨a2, c2, rfl, r2⟩ := rd_ints h2
  obtain ⟨res, hres⟩ : ∃ r, cmpR xs ys = r := ⟨_, rfl⟩
  have R1 := Lib.hid r1
  have R2 := Lib.hid r2
  have HRES := Lib.hid hres
  rw [hres]
  clear h1 h2 r1 r2 hres
  go_enter Try.func44, Try.ntmps44
  go_wp2
  go_loop [11] (fun i => ∃ k : Nat, k ≤ xs.length ∧ i = .int .i64 k ∧ Hid (k ≤ ys.length ∧ cmpR (xs.drop k) (ys.drop k) = res)) (fun i => xs.length - (intOf i).toNat)
  case atStart => exact ⟨0, Nat.zero_le _, rfl, Lib.hid ⟨Nat.zero_le _, HRES.out⟩⟩
  case round =>
    obtain ⟨k, hk, rfl, HN⟩ := hrel
    by_cases hlt : k < xs.length
    · obtain ⟨g1, o1, rfl, l1, e1⟩ := R1.out k hlt
      have ik : (k : Int) < xs.length := by omega
      have ik0 : (0 : Int) ≤ k := by omega
      have hdx : xs.drop k = xs[k] :: xs.drop (k + 1) := List.drop_eq_getElem_cons hlt
      by_cases hlt2 : k < ys.length
      · obtain ⟨g2, o2, rfl, l2, e2⟩ := R2.out k hlt2
        have iy : (k : Int) < ys.length := by omega
        have b1 : decide ((ys.length : Int) ≤ k) = false := by simp; omega
        have b2 : decide (ys.length ≤ k) = false := by simp; omega
        have hdy : ys.drop k = ys[k] :: ys.drop (k + 1) := List.drop_eq_getElem_cons hlt2
        obtain ⟨x, hxe⟩ : ∃ x, xs[k] = x := ⟨_, rfl⟩
        obtain ⟨y, hye⟩ : ∃ y, ys[k] = y := ⟨_, rfl⟩
        rw [hxe] at e1 hdx
        rw [hye] at e2 hdy
        have hst := HN.out.2
        rw [hdx, hdy, cmp_step] at hst
        have HC := Lib.hid (cmp72 x y w)
        obtain ⟨c, hc⟩ : ∃ c, cmp1 x y = c := ⟨_, rfl⟩
        rw [hc] at hst HC
        by_cases h0 : c = 0
        · subst h0
          have HN2 := Lib.hid (show k + 1 ≤ ys.length ∧ cmpR (xs.drop (k + 1)) (ys.drop (k + 1)) = res from ⟨by omega, by simpa using hst⟩)
          clear hst hc hdx hdy hxe hye
          go_wp2_with (go_at_call 72; refine HC.out.mono ?_; rintro e w' ⟨rfl, rfl⟩)
          go_round
          case rel => exact ⟨k + 1, by omega, by go_num, HN2⟩
          case measure => simp [intOf]; omega
        · have hb : (c != 0) = true := by simp [h0]
          have HRR := Lib.hid (show c = res by rw [if_neg h0] at hst; exact hst)
          clear hst hc hdx hdy hxe hye h0
          go_wp2_with (go_at_call 72; refine HC.out.mono ?_; rintro e w' ⟨rfl, rfl⟩)
          go_ret
          exact ⟨by rw [HRR.out]; rfl, rfl⟩
      · have b1 : decide ((ys.length : Int) ≤ k) = true := by simp; omega
        have b2 : decide (ys.length ≤ k) = true := by simp; omega
        have HRR := Lib.hid (show res = 1 by rw [← HN.out.2, hdx, show ys.drop k = [] from List.drop_of_length_le (by omega)]; rfl)
        clear hdx
        go_wp2
        go_ret
        exact ⟨by rw [HRR.out]; rfl, rfl⟩
    · obtain rfl : k = xs.length := by omega
      have hle := HN.out.1
      by_cases hlt2 : xs.length < ys.length
      · have b1 : decide ((xs.length : Int) < ys.length) = true := by simp; omega
        have b2 : decide (xs.length < ys.length) = true := by simp; omega
        have HRR := Lib.hid (show res = -1 by rw [← HN.out.2, List.drop_length, List.drop_eq_getElem_cons hlt2]; rfl)
        clear hle
        go_wp2
        go_ret
        exact ⟨by rw [HRR.out]; rfl, rfl⟩
      · have b1 : decide ((xs.length : Int) < ys.length) = false := by simp; omega
        have b2 : decide (xs.length < ys.length) = false := by simp; omega
        have HRR := Lib.hid (show res = 0 by rw [← HN.out.2, List.drop_length, show ys.drop xs.length = [] from List.drop_of_length_le (by omega)]; rfl)
        clear hle
        go_wp2
        go_ret
        exact ⟨by rw [HRR.out]; rfl, rfl⟩

end Go.Proofs.Ytojcojoleodjmaa
