/-
  The walk of shuttlelaw16.MutexTurn: it returns true. No condition.
-/
import Derived.Test.YtidnkienkdlmkaaMxAwake
namespace Go.Proofs.Ytidnkienkdlmkaa
open Go.RowKit Go.Sh

/-- An act: what, who. -/
abbrev O2 (x : Int × Int) : List Value := [.int .i64 x.1, .int .i64 x.2]
theorem O2_len (x : Int × Int) : (O2 x).length = 2 := rfl

theorem lockR_cases (own : Option Int) (ws : List Int) (who : Int) :
    lockR own ws who = ⟨false, 0, 1, own, ws⟩ ∨ (own = some who ∧ lockR own ws who = ⟨false, 10, 0, own, ws⟩) ∨ (own = none ∧ 0 ≤ who ∧ lockR own ws who = ⟨true, 0, 0, some who, ws⟩) ∨
    lockR own ws who = ⟨false, 0, 7, own, ws⟩ ∨ (0 ≤ who ∧ own.isSome = true ∧ ws.length < 256 ∧ lockR own ws who = ⟨false, 0, 0, own, ws ++ [who]⟩) := by
  rcases mayR_cases ws who with h1 | h1
  · have h0 : 0 ≤ who := by
      by_cases hn : who < 0
      · simp [mayR, hn] at h1
      · omega
    cases h2 : hasB own who with
    | true => exact .inr (.inl ⟨hasB_true h2, by simp [lockR, h1, h2]⟩)
    | false =>
      cases own with
      | none => exact .inr (.inr (.inl ⟨rfl, h0, by simp [lockR, h1, h2]⟩))
      | some y =>
        by_cases h3 : 256 ≤ ws.length
        · exact .inr (.inr (.inr (.inl (by simp [lockR, h1, h2, h3]))))
        · exact .inr (.inr (.inr (.inr ⟨h0, rfl, by omega, by simp [lockR, h1, h2, h3]⟩)))
  · exact .inl (by simp [lockR, h1])

theorem unlockR_cases (own : Option Int) (ws : List Int) (who : Int) :
    unlockR own ws who = ⟨false, 0, 1, own, ws, []⟩ ∨ unlockR own ws who = ⟨false, 10, 0, own, ws, []⟩ ∨ (own = some who ∧ ws = [] ∧ unlockR own ws who = ⟨true, 0, 0, none, [], []⟩) ∨
    ∃ x r, own = some who ∧ ws = x :: r ∧ unlockR own ws who = ⟨true, 0, 0, some x, r, [⟨x, 0, 0, 0⟩]⟩ := by
  rcases mayR_cases ws who with h1 | h1
  · cases h2 : hasB own who with
    | false => exact .inr (.inl (by simp [unlockR, h1, h2]))
    | true =>
      cases ws with
      | nil => exact .inr (.inr (.inl ⟨hasB_true h2, rfl, by simp [unlockR, h1, h2]⟩))
      | cons x r => exact .inr (.inr (.inr ⟨x, r, hasB_true h2, rfl, by simp [unlockR, h1, h2]⟩))
  · exact .inl (by simp [unlockR, h1])

def hasV (own : Option Int) : Int := own.getD (-1)

/-- What holds of the mutex's state between two acts. -/
def Good (own : Option Int) (ws : List Int) : Prop := (∀ x, own = some x → 0 ≤ x) ∧ (∀ x ∈ ws, 0 ≤ x) ∧ (own = none → ws = [])

def TurnRel (B : Nat) (w0 : World) (b : Nat) (n : Nat) (h a i : Value) (wr : World) : Prop :=
  ∃ (k : Nat) (own : Option Int) (ws : List Int) (Lm La : List (Nat × Obj)), k ≤ n ∧ i = .int .i64 k ∧ h = .int .i64 (hasV own) ∧ Good own ws ∧ ws.length ≤ k ∧ Sl 3 1 I a ws La ∧ Mx b own ws Lm ∧ Own B w0 wr (Lm ++ La)

theorem rd_ops {w : World} {v : Value} {xs : List (Int × Int)} (hR : Rd w O2 v xs) : ∃ ao cap, v = .slice ao xs.length cap ∧ ∀ i (hi : i < xs.length), ∃ g off, ao = some ⟨g, off, none⟩ ∧ w.cell? ⟨g, off + i * 2, none⟩ = some (.int .i64 xs[i].1) ∧ w.cell? ⟨g, off + i * 2 + 1, none⟩ = some (.int .i64 xs[i].2) := by
  rcases hR with ⟨rfl, ao, cap, rfl⟩ | ⟨g, off, cap, rfl, hc⟩
  · exact ⟨ao, cap, rfl, fun j hj => by simp at hj⟩
  · refine ⟨_, cap, rfl, fun i hi => ⟨g, off, rfl, ?_, ?_⟩⟩
    · have := hc (i * 2 + 0) (.int .i64 xs[i].1) (by rw [flatMap_get O2_len xs i 0 (by omega), List.getElem?_eq_getElem hi]; rfl)
      simpa only [Nat.add_zero] using this
    · have := hc (i * 2 + 1) (.int .i64 xs[i].2) (by rw [flatMap_get O2_len xs i 1 (by omega), List.getElem?_eq_getElem hi]; rfl)
      simpa only [← Nat.add_assoc] using this

set_option maxRecDepth 100000 in
set_option maxHeartbeats 4000000 in
theorem turn3 (xs : List (Int × Int)) (ao : Option Addr) (cap : Nat) (w : World) (hR : Rd w O2 (.slice ao xs.length cap) xs) (hx : xs.length ≤ 9223372036854775807) (hcap : xs.length ≤ cap) :
    Calls Try.prog 3 #[.slice ao xs.length cap] w fun e w' => e = .returned (.bool true) ∧ Below w.heap.size w w' := by
  obtain ⟨ao', cap', he, r1⟩ := rd_ops hR
  simp only [Value.slice.injEq, true_and] at he
  obtain ⟨rfl, rfl⟩ := he
  have R1 := Lib.hid r1
  obtain ⟨N, hN1, hN2, hmin⟩ : ∃ N : Nat, N ≤ xs.length ∧ N ≤ 200 ∧ (if (200 : Int) < (xs.length : Int) then 200 else (xs.length : Int)) = (N : Int) := ⟨min xs.length 200, by omega, by omega, by split <;> omega⟩
  clear r1 hR
  obtain ⟨i0, hi, hz0, hz1, hz2⟩ := info_parts Try.info3
  have hO0 := (Own.start w).alloc (.cells #[.bool true, .pointer none, .slice none 0 0] 48)
  go_enter Try.func3, Try.ntmps3
  go_wp2_with (first | (go_at_call 15; refine (new15 _).mono ?_; rintro e w' ⟨rfl, rfl⟩))
  refine (awake16 _ w _ _ hO0).mono ?_
  rintro e w1 ⟨rfl, hO1⟩
  go_wp2
  clear hmin
  go_loopw [4, 5, 27] (fun h a i wr => TurnRel w.heap.size w w.heap.size N h a i wr) (fun _ _ i _ => N - (intOf i).toNat)
  case atStart => exact ⟨0, none, [], _, [], Nat.zero_le _, rfl, rfl, ⟨by simp, by simp, by simp⟩, by simp, Sl.nil, Mx.new _, by simpa using hO1⟩
  case round =>
    obtain ⟨k, own, ws, Lm, La, hk, rfl, rfl, hgood, hwk, hS, hM, hO⟩ := hrel
    obtain ⟨aa, ca, rfl, hca, _⟩ := hS.form
    clear hO0 hO1
    by_cases hlt : k < N
    · obtain ⟨g, off, rfl, e1, e2⟩ := R1.out k (by omega)
      have hb1 := World.block_lt_of_cell? _ _ e1
      have c1 := (hO.below.cell (p := ⟨g, off + k * 2, none⟩) hb1).trans e1
      have c2 := (hO.below.cell (p := ⟨g, off + k * 2 + 1, none⟩) hb1).trans e2
      have hkx : k < xs.length := by omega
      clear e1 e2
      obtain ⟨⟨d, who⟩, hop⟩ : ∃ x, xs[k] = x := ⟨_, rfl⟩
      rw [hop] at c1 c2
      clear hop
      dsimp only at c1 c2
      have HG := Lib.hid hgood
      clear hgood
      by_cases hd : d = 0
      · subst hd
        go_wp2_with fail
        refine (lock_any _ _ _ own ws Lm _ who _ hM ((hO.alloc _).shuf [[_], Lm, La] [1, 0, 2] rfl rfl)).mono ?_
        rintro e w2 ⟨rfl, L2, hM2, hO1⟩
        have hoo : w2.heap[wr.heap.size]? = some (.cells #[.int .i64 0, .int .i64 who] 28 (0, 0)) := hO1.get (wr.heap.size, _) (by simp [cat])
        have oc1 : w2.cell? ⟨wr.heap.size, 1, none⟩ = some (.int .i64 who) := cell_of_get hoo 1
        have ol := lt_of_get hoo
        have hO2 := (hO1.shuf [L2, [_], La] [1, 0, 2] rfl rfl).tail
        clear hO1 hoo
        rcases lockR_cases own ws who with hr | ⟨_, hr⟩ | ⟨rfl, h0, hr⟩ | hr | ⟨h0, hs, h256, hr⟩
        · rw [hr] at hM2 ⊢
          dsimp only at hM2 ⊢
          clear hr hM hO
          go_wp2
          exact ⟨⟨k + 1, own, ws, L2, La, by omega, by go_num, rfl, HG.out, by omega, hS, hM2, hO2.junk _⟩, by simp [intOf]; omega⟩
        · rw [hr] at hM2 ⊢
          dsimp only at hM2 ⊢
          clear hr hM hO
          go_wp2
          exact ⟨⟨k + 1, own, ws, L2, La, by omega, by go_num, rfl, HG.out, by omega, hS, hM2, hO2.junk _⟩, by simp [intOf]; omega⟩
        · obtain rfl := HG.out.2.2 rfl
          rw [hr] at hM2 ⊢
          dsimp only at hM2 ⊢
          have hv : hasV none = -1 := rfl
          clear hr hM hO
          go_wp2
          exact ⟨⟨k + 1, some who, [], L2, La, by omega, by go_num, rfl, ⟨fun x e => by cases e; exact h0, by simp, by simp⟩, by simp, hS, hM2, hO2.junk _⟩, by simp [intOf]; omega⟩
        · rw [hr] at hM2 ⊢
          dsimp only at hM2 ⊢
          clear hr hM hO
          go_wp2
          exact ⟨⟨k + 1, own, ws, L2, La, by omega, by go_num, rfl, HG.out, by omega, hS, hM2, hO2.junk _⟩, by simp [intOf]; omega⟩
        · rw [hr] at hM2 ⊢
          dsimp only at hM2 ⊢
          clear hr hM hO
          go_wp2_with (at_builtin; refine wpList_append_sl rfl (.tmp 65) (.tmp 68) 26 rfl _ _ _ Try.underlying26 hi hz0 hz1 hz2 rfl I_len I_one rfl hS (F := L2) (by exact ((hO2.shuf [L2, La] [1, 0] rfl rfl).junk _).junk _) ⟨w2.heap.size + 1, 0, none⟩ [who] 1 1 rfl rfl (news_one (x := .int .i64 who) (by simp [World.cell?_alloc_at])) (by decide) (by unfold maxLen; omega) (by omega) ?_)
          intro g' off' cap' w3 L3 hS3 hO3 _ _
          clear hO2 hS oc1 ol
          go_wp2
          exact ⟨⟨k + 1, own, ws ++ [who], L2, L3, by omega, by go_num, rfl, ⟨HG.out.1, fun x hx => by
            rcases List.mem_append.1 hx with h | h
            · exact HG.out.2.1 x h
            · simp at h; subst h; exact h0, fun e => by rw [e] at hs; simp at hs⟩, by simp; omega, by simpa using hS3, hM2, hO3.comm⟩, by simp [intOf]; omega⟩
      · have hdb : (d == 0) = false := by simp [hd]
        go_wp2_with fail
        refine (unlock_any _ _ _ own ws Lm _ who _ hM ((hO.alloc _).shuf [[_], Lm, La] [1, 0, 2] rfl rfl)).mono ?_
        rintro e w2 ⟨wk, Lk, L2, rfl, hK, hM2, hO1⟩
        have hoo : w2.heap[wr.heap.size]? = some (.cells #[.int .i64 d, .int .i64 who] 28 (0, 0)) := hO1.get (wr.heap.size, _) (by simp [cat])
        have oc1 : w2.cell? ⟨wr.heap.size, 1, none⟩ = some (.int .i64 who) := cell_of_get hoo 1
        have ol := lt_of_get hoo
        have hO2 := (hO1.shuf [L2, Lk, [_], La] [2, 0, 1, 3] rfl rfl).tail
        clear hO1 hoo
        obtain ⟨ak, ck, rfl, hck, _⟩ := hK.form
        rcases unlockR_cases own ws who with hr | hr | ⟨rfl, rfl, hr⟩ | ⟨x, r, rfl, rfl, hr⟩
        · rw [hr] at hM2 hK ⊢
          dsimp only at hM2 hK ⊢
          have hO3 := (hO2.shuf [L2, Lk, La] [1, 0, 2] rfl rfl).right
          clear hr hM hO
          go_wp2
          exact ⟨⟨k + 1, own, ws, L2, La, by omega, by go_num, rfl, HG.out, by omega, hS, hM2, hO3.junk _⟩, by simp [intOf]; omega⟩
        · rw [hr] at hM2 hK ⊢
          dsimp only at hM2 hK ⊢
          have hO3 := (hO2.shuf [L2, Lk, La] [1, 0, 2] rfl rfl).right
          clear hr hM hO
          go_wp2
          exact ⟨⟨k + 1, own, ws, L2, La, by omega, by go_num, rfl, HG.out, by omega, hS, hM2, hO3.junk _⟩, by simp [intOf]; omega⟩
        · rw [hr] at hM2 hK ⊢
          dsimp only at hM2 hK ⊢
          have hO3 := (hO2.shuf [L2, Lk, La] [1, 0, 2] rfl rfl).right
          have hv : hasV (some who) = who := rfl
          clear hr hM hO
          go_wp2
          exact ⟨⟨k + 1, none, [], L2, La, by omega, by go_num, rfl, ⟨by simp, by simp, by simp⟩, by simp, hS, hM2, hO3.junk _⟩, by simp [intOf]; omega⟩
        · rw [hr] at hM2 hK ⊢
          dsimp only at hM2 hK ⊢
          have hv : hasV (some who) = who := rfl
          have hO3 := (hO2.shuf [L2, Lk, La] [0, 2, 1] rfl rfl)
          obtain ⟨ak', ck', he, r2⟩ := rd_wakes (Sl_rd (w := w2) hK (fun p hp => hO3.get p (by simp [cat, hp])))
          simp only [Value.slice.injEq, true_and] at he
          obtain ⟨rfl, rfl⟩ := he
          obtain ⟨gk, ok, rfl, hgk, hc4⟩ := r2 0 (by simp)
          obtain ⟨k0, k1, k2, k3⟩ := hc4 0 (by simp)
          simp only [List.getElem_cons_zero, Nat.zero_mul, Nat.add_zero] at k0 k1 k2 k3
          clear r2 hc4 hr hM hO
          rcases hS with ⟨_, h, _⟩ | ⟨ga, oa, cb, cura, hsv, rfl, hca1, hca2, hca3, hca4⟩
          · cases h
          · simp only [Value.slice.injEq] at hsv
            obtain ⟨rfl, _, rfl⟩ := hsv
            have hS : Sl 3 1 I (.slice (some ⟨ga, oa, none⟩) (x :: r).length ca) (x :: r) [(ga, Obj.cells cura 3 (0, 0))] := .inr ⟨ga, oa, ca, cura, rfl, rfl, hca1, hca2, hca3, hca4⟩
            have hga : w2.heap[ga]? = some (.cells cura 3 (0, 0)) := hO3.get (ga, .cells cura 3 (0, 0)) (by simp [cat])
            have hlg := lt_of_get hga
            have hx0 : w2.cell? ⟨ga, oa, none⟩ = some (.int .i64 x) := by
              rw [cell_of_get hga]
              have : (List.take ((x :: r).length * 1) (List.drop oa cura.toList))[0]? = some (.int .i64 x) := by rw [hca4]; rfl
              simpa [List.getElem?_take] using this
            obtain ⟨oa', hoa, hS'⟩ := hS.dropIf I_len 1 (by simp) (ca = 1) id
            have HOA := Lib.hid hoa
            have hca' : (1 : Int) ≤ ca := by simp at hca1; omega
            clear hS hga hca1 hca2 hca3 hca4 hoa hO2
            go_wp2
            go_region
            go_wp2
            go_region
            go_wp2
            rw [show oa + 1 * 1 = oa + 1 from rfl] at HOA
            rw [HOA.out]
            exact ⟨⟨k + 1, some x, r, L2, [(ga, Obj.cells cura 3 (0, 0))], by omega, by go_num, rfl, ⟨fun y e => by cases e; exact HG.out.2.1 x (by simp), fun y hy => HG.out.2.1 y (by simp [hy]), by simp⟩, by simp at hwk; omega, by simpa using hS', hM2, (hO3.shuf [L2, [_], Lk] [2, 0, 1] rfl rfl).right.junk _ |>.drew.drew⟩, by simp [intOf]; omega⟩
    · obtain rfl : k = N := by omega
      have HG := Lib.hid hgood
      clear hgood
      cases own with
      | none =>
        obtain rfl := HG.out.2.2 rfl
        have hv : hasV none = -1 := rfl
        go_wp2_with fail
        refine (owner_any _ none [] Lm _ hM (fun p hp => hO.get p (List.mem_append_left _ hp))).mono ?_
        rintro e w' ⟨rfl, rfl⟩
        unfold ownV
        dsimp only [Option.getD_some, Option.isSome_some, Option.getD_none, Option.isSome_none]
        go_wp2_with fail
        refine (waits_any _ _ _ none [] Lm _ _ hM hO (fun p hp => List.mem_append_left _ hp)).mono ?_
        rintro e w2 ⟨v2, L2, rfl, hS2, hO2⟩
        go_wp2_with fail
        refine (equal20 _ _ _ [] [] v2 _ _ (Sl_rd hS2 (fun p hp => hO2.get p (by simp [hp]))) (Sl_rd hS (fun p hp => hO2.get p (by simp [hp]))) hO2 (by simp; try omega) (by simp; try omega)).mono ?_
        rintro e w3 ⟨rfl, hO3⟩
        have hdt : decide (([] : List Int) = []) = true := by simp
        rw [hdt]
        go_wp2
        go_ret
        exact ⟨rfl, hO3.below⟩
      | some x =>
        have hx0 := HG.out.1 x rfl
        have hv : hasV (some x) = x := rfl
        go_wp2_with fail
        refine (owner_any _ (some x) ws Lm _ hM (fun p hp => hO.get p (List.mem_append_left _ hp))).mono ?_
        rintro e w' ⟨rfl, rfl⟩
        unfold ownV
        dsimp only [Option.getD_some, Option.isSome_some, Option.getD_none, Option.isSome_none]
        go_wp2_with fail
        refine (waits_any _ _ _ (some x) ws Lm _ _ hM hO (fun p hp => List.mem_append_left _ hp)).mono ?_
        rintro e w2 ⟨v2, L2, rfl, hS2, hO2⟩
        go_wp2_with fail
        refine (equal20 _ _ _ ws ws v2 _ _ (Sl_rd hS2 (fun p hp => hO2.get p (by simp [hp]))) (Sl_rd hS (fun p hp => hO2.get p (by simp [hp]))) hO2 (by omega) (by omega)).mono ?_
        rintro e w3 ⟨rfl, hO3⟩
        have hdt : decide (ws = ws) = true := by simp
        rw [hdt]
        go_wp2
        go_ret
        exact ⟨rfl, hO3.below⟩

end Go.Proofs.Ytidnkienkdlmkaa
