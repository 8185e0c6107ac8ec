/-
  The walk of shuttlelaw19.RunDoes: it returns true. No condition.
-/
import Derived.Test.YtojcojoleodjmaaRfSame
import Derived.Test.YtojcojoleodjmaaRfClone
import Derived.Test.YtojcojoleodjmaaRfPush
import Derived.Test.YtojcojoleodjmaaRfDrop
import Derived.Test.YtojcojoleodjmaaRfNext
import Derived.Test.YtojcojoleodjmaaRqLost
namespace Go.Proofs.Ytojcojoleodjmaa
open Go.RowKit Go.Sh
attribute [local go_sem ↓] Go.wp_at_zero Go.wp_at_succ

theorem beyond_upd {n k : Nat} {ls : Nat → List Int} {xs : List Int} (hk : k < n) (h : ∀ j, n ≤ j → ls j = []) : ∀ j, n ≤ j → upd ls k xs j = [] := fun j hj => by rw [upd_other (by omega)]; exact h j hj

theorem beyond_push {n : Nat} {ls : Nat → List Int} (worker who : Int) (h : ∀ j, n ≤ j → ls j = []) : ∀ j, n ≤ j → (pushQ n ls worker who).2 j = [] := by
  unfold pushQ
  rcases mayQ_cases n worker with h1 | ⟨h1, k, rfl, hk⟩
  · rw [if_pos h1]; exact h
  · rw [if_neg (by omega)]
    split
    · exact h
    · split
      · exact h
      · rw [Int.toNat_natCast]; exact beyond_upd hk h

theorem beyond_drop {n : Nat} {ls : Nat → List Int} (who : Int) (h : ∀ j, n ≤ j → ls j = []) : ∀ j, n ≤ j → (dropQ n ls who).2 j = [] := by
  unfold dropQ
  rcases findV_cases n ls who with ⟨h1, _⟩ | ⟨k, i, hk, _, h1, _⟩
  · rw [h1]; exact h
  · rw [h1]; exact beyond_upd hk h

theorem beyond_pop {n k : Nat} {ls : Nat → List Int} (st : Int) (hk : k < n) (h : ∀ j, n ≤ j → ls j = []) : ∀ j, n ≤ j → (popQ ls st k).2.2.1 j = [] := by
  unfold popQ
  cases hl : ls k with
  | nil => exact h
  | cons x r => exact beyond_upd hk h

theorem beyond_next {n : Nat} {ls : Nat → List Int} (st worker : Int) (h : ∀ j, n ≤ j → ls j = []) : ∀ j, n ≤ j → (nextQ n ls st worker).2.2.1 j = [] := by
  unfold nextQ
  rcases mayQ_cases n worker with h1 | ⟨h1, k, rfl, hk⟩
  · rw [if_pos h1]; exact h
  · rw [if_neg (by omega), Int.toNat_natCast]
    split
    · unfold stealQ
      cases hv : victimQ n ls k with
      | none => exact h
      | some v =>
        obtain ⟨hvn, _⟩ := victimQ_some hk hv
        exact beyond_pop _ hk (beyond_upd hvn (beyond_upd hk h))
    · exact beyond_pop _ hk h

def DoesRel (B : Nat) (w0 : World) (rb rbr n N : Nat) (s5 i : Value) (wr : World) : Prop :=
  ∃ (k b : Nat) (ls : Nat → List Int) (st : Int) (L Lr : List (Nat × Obj)), k ≤ N ∧ i = .int .i64 k ∧ s5 = .pointer (some ⟨b, 0, none⟩) ∧ Qx b n ls st L ∧ Rqx rb rbr n ls st Lr ∧ Sh.Own B w0 wr (L ++ Lr) ∧ ∀ j, n ≤ j → ls j = []

set_option maxRecDepth 100000 in
set_option maxHeartbeats 8000000 in
theorem does7 (a : Int) (xs : List A3) (ao : Option Addr) (cap : Nat) (w : World) (_ : (Lit.int .i64 a).wf = true) (hR : Rd w O3 (.slice ao xs.length cap) xs) (_ : ∀ x ∈ xs, True) (hx : xs.length ≤ 9223372036854775807) (hcap : xs.length ≤ cap) :
    Calls Try.prog 7 #[.int .i64 a, .slice ao xs.length cap] w fun e w' => e = .returned (.bool true) ∧ Below w.heap.size w w' := by
  obtain ⟨ao', cap', he, r1⟩ := rd_ops3 hR
  simp only [Value.slice.injEq, true_and] at he
  obtain ⟨rfl, rfl⟩ := he
  have R1 := Lib.hid r1
  obtain ⟨N, hN1, hN2, hmin⟩ : ∃ N : Nat, N ≤ xs.length ∧ N ≤ 100 ∧ (if (100 : Int) < (xs.length : Int) then 100 else (xs.length : Int)) = (N : Int) := ⟨min xs.length 100, by omega, by omega, by split <;> omega⟩
  clear hR r1
  by_cases ha : a < 1 ∨ 16 < a
  · have hO0 := Sh.Own.start w
    go_enter Try.func7, Try.ntmps7
    go_wp2_with fail
    refine (new_q_bad a _ ha).mono ?_
    rintro e w1 ⟨rfl, rfl⟩
    go_wp2_with fail
    refine (rnew25_bad a _ ha).mono ?_
    rintro e w2 ⟨rfl, rfl⟩
    go_wp2_with fail
    refine (awake14 _ _ _ _ hO0).mono ?_
    rintro e w3 ⟨rfl, hO1⟩
    go_wp2
    go_ret
    exact ⟨rfl, hO1.below⟩
  · obtain ⟨n, rfl⟩ : ∃ n : Nat, a = n := ⟨a.toNat, by omega⟩
    have hn1 : 1 ≤ n := by omega
    have hn16 : n ≤ 16 := by omega
    clear ha
    have hO0 := (Sh.Own.start w).alloc (qobj n (fun _ => .slice none 0 0) 0)
    have HMIN := Lib.hid hmin
    go_enter Try.func7, Try.ntmps7
    go_wp2_with fail
    refine (new_q n _ rfl _ hn1 hn16).mono ?_
    rintro e w1 ⟨rfl, rfl⟩
    go_wp2_with fail
    refine (rnew25 w.heap.size w _ n _ rfl _ hn1 hn16 hO0).mono ?_
    rintro e w1 ⟨rb, rbr, Lr, rfl, hRx, hO1⟩
    clear hO0
    go_wp2_with fail
    refine (awake14 _ w _ _ hO1).mono ?_
    rintro e w2 ⟨rfl, hO2⟩
    go_wp2
    clear hmin
    have HX1 := Lib.hid (Qx.new (b := w.heap.size) hn1 hn16)
    have hO3 := hO2.comm
    go_loopw [5, 48] (fun s5 i wr => DoesRel w.heap.size w rb rbr n N s5 i wr) (fun _ i _ => N - (intOf i).toNat)
    case atStart => exact ⟨0, _, _, _, _, _, Nat.zero_le _, rfl, rfl, HX1.out, hRx, hO3, fun _ _ => rfl⟩
    case round =>
      clear hRx hO1 hO2 hO3 HX1
      obtain ⟨k, b, ls, st, L, Lr, hk, rfl, rfl, hX, hRx, hO, hbe⟩ := hrel
      by_cases hlt : k < N
      · obtain ⟨g, off, rfl, e1, e2, e3⟩ := R1.out k (by omega)
        have hb1 := World.block_lt_of_cell? _ _ e1
        have c1 := (hO.below.cell (p := ⟨g, off + k * 3, none⟩) hb1).trans e1
        have c2 := (hO.below.cell (p := ⟨g, off + k * 3 + 1, none⟩) hb1).trans e2
        have c3 := (hO.below.cell (p := ⟨g, off + k * 3 + 2, none⟩) hb1).trans e3
        have hkx : k < xs.length := by omega
        clear e1 e2 e3
        obtain ⟨⟨d, wk, who⟩, hop⟩ : ∃ x, xs[k] = x := ⟨_, rfl⟩
        rw [hop] at c1 c2 c3
        dsimp only at c1 c2 c3
        clear hop
        have hO3 := hO.alloc (Obj.cells #[.int .i64 d, .int .i64 wk, .int .i64 who] 36 (0, 0))
        by_cases hd : d = 0
        · subst hd
          obtain ⟨⟨ec, ls'⟩, hr⟩ : ∃ r, pushQ n ls wk who = r := ⟨_, rfl⟩
          have hbe2 : ∀ j, n ≤ j → ls' j = [] := by have := beyond_push wk who hbe; rw [hr] at this; exact this
          have HBE2 := Lib.hid hbe2
          clear hbe2
          clear hbe
          have HR := Lib.hid hr
          clear hr
          have hOA := hO3.shuf [[_], L, Lr] [1, 2, 0] rfl rfl
          have o1 : (wr.alloc (Obj.cells #[.int .i64 0, .int .i64 wk, .int .i64 who] 36 (0, 0))).cell? ⟨wr.heap.size, 1, none⟩ = some (.int .i64 wk) := by simp
          have o2 : (wr.alloc (Obj.cells #[.int .i64 0, .int .i64 wk, .int .i64 who] 36 (0, 0))).cell? ⟨wr.heap.size, 2, none⟩ = some (.int .i64 who) := by simp
          go_wp2_with fail
          go_region_held3 (fun w' => w'.cell? ⟨wr.heap.size, 1, none⟩ = some (.int .i64 wk) ∧ w'.cell? ⟨wr.heap.size, 2, none⟩ = some (.int .i64 who))
            (first
              | go_keep
              | exact ⟨k1, k2⟩
              | exact ⟨k3, k4⟩)
            (first
              | (go_at_call 26; refine (rpush26 w.heap.size w rb rbr n ls st Lr _ wk who _ hRx hOB).mono ?_; rw [HR.out]; rintro e w3 ⟨rfl, L3, hR2, hOC⟩; dsimp only at hR2 ⊢; have hbx : w3.heap[wr.heap.size]? = some (Obj.cells #[.int .i64 0, .int .i64 wk, .int .i64 who] 36 (0, 0)) := hOC.get (wr.heap.size, Obj.cells #[.int .i64 0, .int .i64 wk, .int .i64 who] 36 (0, 0)) (by simp [cat]); have k3 : w3.cell? ⟨wr.heap.size, 1, none⟩ = some (.int .i64 wk) := cell_of_get hbx 1; have k4 : w3.cell? ⟨wr.heap.size, 2, none⟩ = some (.int .i64 who) := cell_of_get hbx 2; clear hbx)
              | (go_at_call 15; refine (push_q w.heap.size w b n ls st L _ wk who _ hX hOA.drew).mono ?_; rw [HR.out]; rintro e w2 ⟨rfl, L2, hX2, hOa⟩; dsimp only at hX2 ⊢; have hbx : w2.heap[wr.heap.size]? = some (Obj.cells #[.int .i64 0, .int .i64 wk, .int .i64 who] 36 (0, 0)) := hOa.get (wr.heap.size, Obj.cells #[.int .i64 0, .int .i64 wk, .int .i64 who] 36 (0, 0)) (by simp [cat]); have k1 : w2.cell? ⟨wr.heap.size, 1, none⟩ = some (.int .i64 wk) := cell_of_get hbx 1; have k2 : w2.cell? ⟨wr.heap.size, 2, none⟩ = some (.int .i64 who) := cell_of_get hbx 2; have hOB := hOa.shuf [L2, Lr, [_]] [1, 0, 2] rfl rfl; clear hbx))
          all_goals
            have hOD := hOC.shuf [L3, L2, [_]] [1, 0, 2] rfl rfl
            clear hOC hOB hOa hOA hO hO3 hX hRx o1 o2 k1 k2 k3 k4 HR
            obtain ⟨vs, Ls, hQ, rfl⟩ := hX2
            obtain ⟨rvs, rLs, hQr, rfl⟩ := hR2
            go_wp2_with fail
            refine (same29 w.heap.size w b rb rbr n vs rvs Ls rLs ls' st _ _ hQ hQr HBE2.out (fun p hp => by simp [cat, hp]) (fun p hp => by simp [cat, hp]) hOD).mono ?_
            rintro e wz ⟨rfl, hOz⟩
            have hOy := hOz.shuf [qown b n vs Ls st, rown rb rbr n rvs rLs st, [_]] [2, 0, 1] rfl rfl |>.tail
            clear hOz hOD
            go_wp2
            exact ⟨⟨k + 1, b, ls', st, _, _, by omega, by go_num, rfl, ⟨vs, Ls, hQ, rfl⟩, ⟨rvs, rLs, hQr, rfl⟩, hOy, HBE2.out⟩, by simp [intOf]; omega⟩
        · have hd0 : (d == 0) = false := by simpa using hd
          by_cases hd1 : d = 1
          · subst hd1
            obtain ⟨⟨x1, x2, ls', st'⟩, hr⟩ : ∃ r, nextQ n ls st wk = r := ⟨_, rfl⟩
            have hbe2 : ∀ j, n ≤ j → ls' j = [] := by have := beyond_next st wk hbe; rw [hr] at this; exact this
            have HBE2 := Lib.hid hbe2
            clear hbe2 hbe hd
            have HR := Lib.hid hr
            clear hr
            have hOA := hO3.shuf [[_], L, Lr] [1, 2, 0] rfl rfl
            go_wp2_with fail
            refine (next_q w.heap.size w b n ls st L _ wk _ hX hOA).mono ?_
            rw [HR.out]
            rintro e w2 ⟨rfl, L2, hX2, hOa⟩
            dsimp only at hX2 ⊢
            have hbx : w2.heap[wr.heap.size]? = some (Obj.cells #[.int .i64 1, .int .i64 wk, .int .i64 who] 36 (0, 0)) := hOa.get (wr.heap.size, Obj.cells #[.int .i64 1, .int .i64 wk, .int .i64 who] 36 (0, 0)) (by simp [cat])
            have k1 : w2.cell? ⟨wr.heap.size, 1, none⟩ = some (.int .i64 wk) := cell_of_get hbx 1
            have hOB := hOa.shuf [L2, Lr, [_]] [1, 0, 2] rfl rfl
            clear hbx hOa hOA hO hO3 hX
            go_wp2_with fail
            refine (rnext27 w.heap.size w rb rbr n ls st Lr _ wk _ hRx hOB).mono ?_
            rw [HR.out]
            rintro e w3 ⟨rfl, L3, hR2, hOC⟩
            dsimp only at hR2 ⊢
            have hOD := hOC.shuf [L3, L2, [_]] [1, 0, 2] rfl rfl
            clear hOC hOB hRx k1 HR
            obtain ⟨vs, Ls, hQ, rfl⟩ := hX2
            obtain ⟨rvs, rLs, hQr, rfl⟩ := hR2
            go_wp2_with fail
            refine (same29 w.heap.size w b rb rbr n vs rvs Ls rLs ls' st' _ _ hQ hQr HBE2.out (fun p hp => by simp [cat, hp]) (fun p hp => by simp [cat, hp]) hOD).mono ?_
            rintro e wz ⟨rfl, hOz⟩
            have hOy := hOz.shuf [qown b n vs Ls st', rown rb rbr n rvs rLs st', [_]] [2, 0, 1] rfl rfl |>.tail
            clear hOz hOD
            go_wp2
            exact ⟨⟨k + 1, b, ls', st', _, _, by omega, by go_num, rfl, ⟨vs, Ls, hQ, rfl⟩, ⟨rvs, rLs, hQr, rfl⟩, hOy, HBE2.out⟩, by simp [intOf]; omega⟩
          · have hd1' : (d == 1) = false := by simpa using hd1
            by_cases hd2 : d = 2
            · subst hd2
              obtain ⟨⟨ec, ls'⟩, hr⟩ : ∃ r, dropQ n ls who = r := ⟨_, rfl⟩
              have hbe2 : ∀ j, n ≤ j → ls' j = [] := by have := beyond_drop who hbe; rw [hr] at this; exact this
              have HBE2 := Lib.hid hbe2
              clear hbe2 hbe hd hd1
              have HR := Lib.hid hr
              clear hr
              have hOA := hO3.shuf [[_], L, Lr] [1, 2, 0] rfl rfl
              have o1 : (wr.alloc (Obj.cells #[.int .i64 2, .int .i64 wk, .int .i64 who] 36 (0, 0))).cell? ⟨wr.heap.size, 1, none⟩ = some (.int .i64 wk) := by simp
              have o2 : (wr.alloc (Obj.cells #[.int .i64 2, .int .i64 wk, .int .i64 who] 36 (0, 0))).cell? ⟨wr.heap.size, 2, none⟩ = some (.int .i64 who) := by simp
              go_wp2_with fail
              go_region_held3 (fun w' => w'.cell? ⟨wr.heap.size, 1, none⟩ = some (.int .i64 wk) ∧ w'.cell? ⟨wr.heap.size, 2, none⟩ = some (.int .i64 who))
                (first
                  | go_keep
                  | exact ⟨k1, k2⟩
                  | exact ⟨k3, k4⟩)
                (first
                  | (go_at_call 28; refine (rdrop28 w.heap.size w rb rbr n ls st Lr _ who _ hRx hOB).mono ?_; rw [HR.out]; rintro e w3 ⟨rfl, L3, hR2, hOC⟩; dsimp only at hR2 ⊢; have hbx : w3.heap[wr.heap.size]? = some (Obj.cells #[.int .i64 2, .int .i64 wk, .int .i64 who] 36 (0, 0)) := hOC.get (wr.heap.size, Obj.cells #[.int .i64 2, .int .i64 wk, .int .i64 who] 36 (0, 0)) (by simp [cat]); have k3 : w3.cell? ⟨wr.heap.size, 1, none⟩ = some (.int .i64 wk) := cell_of_get hbx 1; have k4 : w3.cell? ⟨wr.heap.size, 2, none⟩ = some (.int .i64 who) := cell_of_get hbx 2; clear hbx)
                  | (go_at_call 17; refine (drop_q w.heap.size w b n ls st L _ who _ hX hOA.drew).mono ?_; rw [HR.out]; rintro e w2 ⟨rfl, L2, hX2, hOa⟩; dsimp only at hX2 ⊢; have hbx : w2.heap[wr.heap.size]? = some (Obj.cells #[.int .i64 2, .int .i64 wk, .int .i64 who] 36 (0, 0)) := hOa.get (wr.heap.size, Obj.cells #[.int .i64 2, .int .i64 wk, .int .i64 who] 36 (0, 0)) (by simp [cat]); have k1 : w2.cell? ⟨wr.heap.size, 1, none⟩ = some (.int .i64 wk) := cell_of_get hbx 1; have k2 : w2.cell? ⟨wr.heap.size, 2, none⟩ = some (.int .i64 who) := cell_of_get hbx 2; have hOB := hOa.shuf [L2, Lr, [_]] [1, 0, 2] rfl rfl; clear hbx))
              all_goals
                have hOD := hOC.shuf [L3, L2, [_]] [1, 0, 2] rfl rfl
                clear hOC hOB hOa hOA hO hO3 hX hRx o1 o2 k1 k2 k3 k4 HR
                obtain ⟨vs, Ls, hQ, rfl⟩ := hX2
                obtain ⟨rvs, rLs, hQr, rfl⟩ := hR2
                go_wp2_with fail
                refine (same29 w.heap.size w b rb rbr n vs rvs Ls rLs ls' st _ _ hQ hQr HBE2.out (fun p hp => by simp [cat, hp]) (fun p hp => by simp [cat, hp]) hOD).mono ?_
                rintro e wz ⟨rfl, hOz⟩
                have hOy := hOz.shuf [qown b n vs Ls st, rown rb rbr n rvs rLs st, [_]] [2, 0, 1] rfl rfl |>.tail
                clear hOz hOD
                go_wp2
                exact ⟨⟨k + 1, b, ls', st, _, _, by omega, by go_num, rfl, ⟨vs, Ls, hQ, rfl⟩, ⟨rvs, rLs, hQr, rfl⟩, hOy, HBE2.out⟩, by simp [intOf]; omega⟩
            · have hd2' : (d == 2) = false := by simpa using hd2
              by_cases hd3 : d = 3
              · subst hd3
                clear hd hd1 hd2
                have HBE := Lib.hid hbe
                clear hbe
                have hOA := hO3.shuf [[_], L, Lr] [1, 2, 0] rfl rfl
                have hX0 := hX
                obtain ⟨vs, Ls, hQ, rfl⟩ := hX
                go_wp2_with fail
                refine (clone24 w.heap.size w b n vs Ls ls st _ _ hQ hOA (fun p hp => by simp [cat, hp])).mono ?_
                rintro e w2 ⟨b2, L2, rfl, hX2, hOa⟩
                have hOB := hOa.shuf [L2, qown b n vs Ls st, Lr, [_]] [1, 0, 2, 3] rfl rfl
                obtain ⟨⟨ec, ls'⟩, hr⟩ : ∃ r, pushQ n ls 0 999 = r := ⟨_, rfl⟩
                obtain ⟨⟨x3, x4, ls3, st3⟩, hr3⟩ : ∃ r, nextQ n ls' st 0 = r := ⟨_, rfl⟩
                have HR := Lib.hid hr
                have HR3 := Lib.hid hr3
                clear hr hr3 hOa hOA hO hO3 hQ
                go_wp2_with fail
                refine (push_q w.heap.size w b n ls st _ _ 0 999 _ hX0 hOB).mono ?_
                rw [HR.out]
                rintro e w3 ⟨rfl, L3, hX3, hOC⟩
                dsimp only at hX3 ⊢
                clear hX0 hOB
                go_wp2_with fail
                refine (next_q w.heap.size w b n ls' st L3 _ 0 _ hX3 hOC).mono ?_
                rw [HR3.out]
                rintro e w4 ⟨rfl, L4, hX4, hOE⟩
                dsimp only at hX4 ⊢
                have hOD := hOE.right
                clear hOC hOE hX3 hX4 HR HR3
                obtain ⟨vs, Ls, hQ, rfl⟩ := hX2
                obtain ⟨rvs, rLs, hQr, rfl⟩ := hRx
                go_wp2_with fail
                refine (same29 w.heap.size w b2 rb rbr n vs rvs Ls rLs ls st _ _ hQ hQr HBE.out (fun p hp => by simp [cat, hp]) (fun p hp => by simp [cat, hp]) hOD).mono ?_
                rintro e wz ⟨rfl, hOz⟩
                have hOy := hOz.shuf [qown b2 n vs Ls st, rown rb rbr n rvs rLs st, [_]] [2, 0, 1] rfl rfl |>.tail
                clear hOz hOD
                go_wp2
                exact ⟨⟨k + 1, b2, ls, st, _, _, by omega, by go_num, rfl, ⟨vs, Ls, hQ, rfl⟩, ⟨rvs, rLs, hQr, rfl⟩, hOy, HBE.out⟩, by simp [intOf]; omega⟩
              · have hd3' : (d == 3) = false := by simpa using hd3
                have HBE := Lib.hid hbe
                have hOA := hO3.shuf [[_], L, Lr] [1, 2, 0] rfl rfl
                clear hbe hO hO3 hd hd1 hd2 hd3
                obtain ⟨vs, Ls, hQ, rfl⟩ := hX
                obtain ⟨rvs, rLs, hQr, rfl⟩ := hRx
                go_wp2_with fail
                refine (same29 w.heap.size w b rb rbr n vs rvs Ls rLs ls st _ _ hQ hQr HBE.out (fun p hp => by simp [cat, hp]) (fun p hp => by simp [cat, hp]) hOA).mono ?_
                rintro e wz ⟨rfl, hOz⟩
                have hOy := hOz.shuf [qown b n vs Ls st, rown rb rbr n rvs rLs st, [_]] [2, 0, 1] rfl rfl |>.tail
                clear hOz hOA
                go_wp2
                exact ⟨⟨k + 1, b, ls, st, _, _, by omega, by go_num, rfl, ⟨vs, Ls, hQ, rfl⟩, ⟨rvs, rLs, hQr, rfl⟩, hOy, HBE.out⟩, by simp [intOf]; omega⟩
      · obtain rfl : k = N := by omega
        have HB := Lib.hid hO.below
        clear hX hRx hO
        go_wp2
        go_ret
        exact ⟨rfl, HB.out⟩

end Go.Proofs.Ytojcojoleodjmaa
