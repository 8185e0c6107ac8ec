/-
  The walk of shuttlelaw16.MutexWaits: it returns true. No condition.
-/
import Derived.Test.YtidnkienkdlmkaaMxTurn
namespace Go.Proofs.Ytidnkienkdlmkaa
open Go.RowKit Go.Sh

/-- What holds of the mutex's state between two acts. -/
def GoodW (own : Option Int) (ws : List Int) : Prop := ws.Nodup ∧ (∀ x, own = some x → x ∉ ws) ∧ (own = none → ws = [])

theorem mayR_notMem {ws : List Int} {who : Int} (h : mayR ws who = 0) : who ∉ ws := by
  intro hm
  have : ws.contains who = true := List.contains_iff_mem.2 hm
  unfold mayR at h
  rw [this] at h
  split at h <;> (try split at h) <;> simp at h

theorem goodW_lock {own : Option Int} {ws : List Int} (who : Int) (h : GoodW own ws) : GoodW (lockR own ws who).own (lockR own ws who).ws := by
  obtain ⟨h1, h2, h3⟩ := h
  rcases mayR_cases ws who with hm | hm
  · have hn := mayR_notMem hm
    rcases lockR_cases own ws who with hr | ⟨_, hr⟩ | ⟨rfl, h0, hr⟩ | hr | ⟨h0, hs, h256, hr⟩
    · rw [hr]; exact ⟨h1, h2, h3⟩
    · rw [hr]; exact ⟨h1, h2, h3⟩
    · obtain rfl := h3 rfl
      rw [hr]; exact ⟨h1, by simp, by simp⟩
    · rw [hr]; exact ⟨h1, h2, h3⟩
    · rw [hr]
      refine ⟨?_, ?_, ?_⟩
      · exact List.nodup_append.2 ⟨h1, by simp, by intro a ha b hb e; simp at hb; subst hb; subst e; exact hn ha⟩
      · intro x hx
        have hx' : own = some x := hx
        have hne : x ≠ who := by
          intro e
          subst e
          subst hx'
          have : lockR (some x) ws x = ⟨false, 10, 0, some x, ws⟩ := by simp [lockR, hm, hasB]
          rw [this] at hr
          simp at hr
        simpa [hne] using h2 x hx'
      · intro e
        have e' : own = none := e
        rw [e'] at hs; simp at hs
  · have hr : lockR own ws who = ⟨false, 0, 1, own, ws⟩ := by simp [lockR, hm]
    rw [hr]; exact ⟨h1, h2, h3⟩

theorem goodW_unlock {own : Option Int} {ws : List Int} (who : Int) (h : GoodW own ws) : GoodW (unlockR own ws who).own (unlockR own ws who).ws := by
  obtain ⟨h1, h2, h3⟩ := h
  rcases unlockR_cases own ws who with hr | hr | ⟨rfl, rfl, hr⟩ | ⟨x, r, rfl, rfl, hr⟩
  · rw [hr]; exact ⟨h1, h2, h3⟩
  · rw [hr]; exact ⟨h1, h2, h3⟩
  · rw [hr]; exact ⟨by simp, by simp, by simp⟩
  · rw [hr]
    obtain ⟨hx, hr'⟩ := List.nodup_cons.1 h1
    exact ⟨hr', fun y e => by cases e; exact hx, by simp⟩

theorem goodW_drop {own : Option Int} {ws : List Int} (who : Int) (h : GoodW own ws) : GoodW own (dropR ws who).2 := by
  obtain ⟨h1, h2, h3⟩ := h
  unfold dropR
  split
  · exact ⟨h1, h2, h3⟩
  · have hs : (ws.take (idx ws who).toNat ++ ws.drop ((idx ws who).toNat + 1)).Sublist ws := by
      rw [← List.eraseIdx_eq_take_drop_succ]
      exact List.eraseIdx_sublist _ _
    exact ⟨h1.sublist hs, fun x hx hm => h2 x hx (hs.subset hm), fun e => by rw [h3 e]; simp⟩

def WaitsRel (B : Nat) (w0 : World) (b : Nat) (n : Nat) (i : Value) (wr : World) : Prop :=
  ∃ (k : Nat) (own : Option Int) (ws : List Int) (Lm : List (Nat × Obj)), k ≤ n ∧ i = .int .i64 k ∧ GoodW own ws ∧ Mx b own ws Lm ∧ Own B w0 wr Lm

theorem Mx.len {b : Nat} {own : Option Int} {ws : List Int} {L : List (Nat × Obj)} (h : Mx b own ws L) : ws.length ≤ 256 := by
  obtain ⟨_, _, _, _, _, _, _, h⟩ := h
  exact h

set_option maxRecDepth 100000 in
set_option maxHeartbeats 4000000 in
theorem waits4 (xs : List (Int × Int)) (ao : Option Addr) (cap : Nat) (w : World) (hR : Rd w O2 (.slice ao xs.length cap) xs) (_ : ∀ x ∈ xs, True) (hx : xs.length ≤ 9223372036854775807) (hcap : xs.length ≤ cap) :
    Calls Try.prog 4 #[.slice ao xs.length cap] w fun e w' => e = .returned (.bool true) ∧ Below w.heap.size w w' := by
  obtain ⟨ao', cap', he, r1⟩ := rd_ops hR
  simp only [Value.slice.injEq, true_and] at he
  obtain ⟨rfl, rfl⟩ := he
  have R1 := Lib.hid r1
  obtain ⟨N, hN1, hN2, hmin⟩ : ∃ N : Nat, N ≤ xs.length ∧ N ≤ 200 ∧ (if (200 : Int) < (xs.length : Int) then 200 else (xs.length : Int)) = (N : Int) := ⟨min xs.length 200, by omega, by omega, by split <;> omega⟩
  clear r1 hR
  have hO0 := (Own.start w).alloc (.cells #[.bool true, .pointer none, .slice none 0 0] 48)
  go_enter Try.func4, Try.ntmps4
  go_wp2_with (first | (go_at_call 15; refine (new15 _).mono ?_; rintro e w' ⟨rfl, rfl⟩))
  refine (awake16 _ w _ _ hO0).mono ?_
  rintro e w1 ⟨rfl, hO1⟩
  go_wp2
  clear hmin
  go_loopw [22] (fun i wr => WaitsRel w.heap.size w w.heap.size N i wr) (fun i _ => N - (intOf i).toNat)
  case atStart => exact ⟨0, none, [], _, Nat.zero_le _, rfl, ⟨by simp, by simp, by simp⟩, Mx.new _, by simpa using hO1⟩
  case round =>
    obtain ⟨k, own, ws, Lm, hk, rfl, hgood, hM, hO⟩ := hrel
    clear hO0 hO1
    by_cases hlt : k < N
    · obtain ⟨g, off, rfl, e1, e2⟩ := R1.out k (by omega)
      have hb1 := World.block_lt_of_cell? _ _ e1
      have c1 := (hO.below.cell (p := ⟨g, off + k * 2, none⟩) hb1).trans e1
      have c2 := (hO.below.cell (p := ⟨g, off + k * 2 + 1, none⟩) hb1).trans e2
      have hkx : k < xs.length := by omega
      clear e1 e2
      obtain ⟨⟨d, who⟩, hop⟩ : ∃ x, xs[k] = x := ⟨_, rfl⟩
      rw [hop] at c1 c2
      clear hop
      dsimp only at c1 c2
      have H1 := Lib.hid (goodW_lock who hgood)
      have H2 := Lib.hid (goodW_unlock who hgood)
      have H3 := Lib.hid (goodW_drop who hgood)
      clear hgood
      by_cases hd : d = 0
      · subst hd
        go_wp2_with fail
        refine (lock_any _ _ _ own ws Lm [] who _ hM (by rw [List.append_nil]; exact hO.junk _)).mono ?_
        rintro e w2 ⟨rfl, L2, hM2, hO2⟩
        rw [List.append_nil] at hO2
        clear H2 H3 hM hO
        have HH := H1
        clear H1
        generalize (lockR own ws who).own = own' at hM2 HH
        generalize (lockR own ws who).ws = ws' at hM2 HH
        have hl := hM2.len
        go_wp2_with fail
        refine (owner_any _ own' ws' L2 _ hM2 (fun p hp => hO2.get p hp)).mono ?_
        rintro e w' ⟨rfl, rfl⟩
        unfold ownV
        cases own' with
        | none =>
          obtain rfl := HH.out.2.2 rfl
          dsimp only [Option.getD_some, Option.isSome_some, Option.getD_none, Option.isSome_none]
          go_wp2_with fail
          refine (waits_any _ _ _ none [] L2 _ _ hM2 hO2 (fun p hp => hp)).mono ?_
          rintro e w3 ⟨v3, L3, rfl, hS3, hO3⟩
          obtain ⟨a3, c3, rfl, hc3, _⟩ := hS3.form
          go_wp2
          exact ⟨⟨k + 1, none, [], L2, by omega, by go_num, HH.out, hM2, hO3.right⟩, by simp [intOf]; omega⟩
        | some x =>
          dsimp only [Option.getD_some, Option.isSome_some, Option.getD_none, Option.isSome_none]
          go_wp2_with fail
          refine (waits_any _ _ _ (some x) ws' L2 _ _ hM2 hO2 (fun p hp => hp)).mono ?_
          rintro e w3 ⟨v3, L3, rfl, hS3, hO3⟩
          obtain ⟨a3, c3, rfl, hc3, _⟩ := hS3.form
          have hcf : ws'.contains x = false := by
            rw [Bool.eq_false_iff]
            intro hc
            exact HH.out.2.1 x rfl (List.contains_iff_mem.1 hc)
          have HCF := Lib.hid hcf
          clear hcf
          have hrd := Lib.hid (Sl_rd hS3 (fun p hp => hO3.get p (by simp [hp])))
          go_wp2_with (go_at_call 23; refine (contains_any ws' x _ _ (by omega) hrd.out).mono ?_; rintro e w' ⟨rfl, rfl⟩; rw [HCF.out])
          all_goals exact ⟨⟨k + 1, some x, ws', L2, by omega, by go_num, HH.out, hM2, hO3.right⟩, by simp [intOf]; omega⟩
      · have hdb : (d == 0) = false := by simp [hd]
        by_cases hd1 : d = 1
        · subst hd1
          go_wp2_with fail
          refine (unlock_any _ _ _ own ws Lm [] who _ hM (by rw [List.append_nil]; exact hO.junk _)).mono ?_
          rintro e w2 ⟨wk, Lk, L2, rfl, hK, hM2, hO2⟩
          replace hO2 := hO2.left
          clear H1 H3 hM hO hK
          have HH := H2
          clear H2
          generalize (unlockR own ws who).own = own' at hM2 HH
          generalize (unlockR own ws who).ws = ws' at hM2 HH
          have hl := hM2.len
          go_wp2_with fail
          refine (owner_any _ own' ws' L2 _ hM2 (fun p hp => hO2.get p hp)).mono ?_
          rintro e w' ⟨rfl, rfl⟩
          unfold ownV
          cases own' with
          | none =>
            obtain rfl := HH.out.2.2 rfl
            dsimp only [Option.getD_some, Option.isSome_some, Option.getD_none, Option.isSome_none]
            go_wp2_with fail
            refine (waits_any _ _ _ none [] L2 _ _ hM2 hO2 (fun p hp => hp)).mono ?_
            rintro e w3 ⟨v3, L3, rfl, hS3, hO3⟩
            obtain ⟨a3, c3, rfl, hc3, _⟩ := hS3.form
            go_wp2
            exact ⟨⟨k + 1, none, [], L2, by omega, by go_num, HH.out, hM2, hO3.right⟩, by simp [intOf]; omega⟩
          | some x =>
            dsimp only [Option.getD_some, Option.isSome_some, Option.getD_none, Option.isSome_none]
            go_wp2_with fail
            refine (waits_any _ _ _ (some x) ws' L2 _ _ hM2 hO2 (fun p hp => hp)).mono ?_
            rintro e w3 ⟨v3, L3, rfl, hS3, hO3⟩
            obtain ⟨a3, c3, rfl, hc3, _⟩ := hS3.form
            have hcf : ws'.contains x = false := by
              rw [Bool.eq_false_iff]
              intro hc
              exact HH.out.2.1 x rfl (List.contains_iff_mem.1 hc)
            have HCF := Lib.hid hcf
            clear hcf
            have hrd := Lib.hid (Sl_rd hS3 (fun p hp => hO3.get p (by simp [hp])))
            go_wp2_with (go_at_call 23; refine (contains_any ws' x _ _ (by omega) hrd.out).mono ?_; rintro e w' ⟨rfl, rfl⟩; rw [HCF.out])
            all_goals exact ⟨⟨k + 1, some x, ws', L2, by omega, by go_num, HH.out, hM2, hO3.right⟩, by simp [intOf]; omega⟩
        · have hdb1 : (d == 1) = false := by simp [hd1]
          go_wp2_with fail
          refine (drop_any _ _ _ own ws Lm [] who _ hM (by rw [List.append_nil]; exact hO.junk _)).mono ?_
          rintro e w2 ⟨rfl, L2, hM2, hO2⟩
          rw [List.append_nil] at hO2
          clear H1 H2 hM hO
          have HH := H3
          clear H3
          obtain ⟨own', rfl⟩ : ∃ o, o = own := ⟨_, rfl⟩
          generalize (dropR ws who).2 = ws' at hM2 HH
          have hl := hM2.len
          go_wp2_with fail
          refine (owner_any _ own' ws' L2 _ hM2 (fun p hp => hO2.get p hp)).mono ?_
          rintro e w' ⟨rfl, rfl⟩
          unfold ownV
          cases own' with
          | none =>
            obtain rfl := HH.out.2.2 rfl
            dsimp only [Option.getD_some, Option.isSome_some, Option.getD_none, Option.isSome_none]
            go_wp2_with fail
            refine (waits_any _ _ _ none [] L2 _ _ hM2 hO2 (fun p hp => hp)).mono ?_
            rintro e w3 ⟨v3, L3, rfl, hS3, hO3⟩
            obtain ⟨a3, c3, rfl, hc3, _⟩ := hS3.form
            go_wp2
            exact ⟨⟨k + 1, none, [], L2, by omega, by go_num, HH.out, hM2, hO3.right⟩, by simp [intOf]; omega⟩
          | some x =>
            dsimp only [Option.getD_some, Option.isSome_some, Option.getD_none, Option.isSome_none]
            go_wp2_with fail
            refine (waits_any _ _ _ (some x) ws' L2 _ _ hM2 hO2 (fun p hp => hp)).mono ?_
            rintro e w3 ⟨v3, L3, rfl, hS3, hO3⟩
            obtain ⟨a3, c3, rfl, hc3, _⟩ := hS3.form
            have hcf : ws'.contains x = false := by
              rw [Bool.eq_false_iff]
              intro hc
              exact HH.out.2.1 x rfl (List.contains_iff_mem.1 hc)
            have HCF := Lib.hid hcf
            clear hcf
            have hrd := Lib.hid (Sl_rd hS3 (fun p hp => hO3.get p (by simp [hp])))
            go_wp2_with (go_at_call 23; refine (contains_any ws' x _ _ (by omega) hrd.out).mono ?_; rintro e w' ⟨rfl, rfl⟩; rw [HCF.out])
            all_goals exact ⟨⟨k + 1, some x, ws', L2, by omega, by go_num, HH.out, hM2, hO3.right⟩, by simp [intOf]; omega⟩
    · obtain rfl : k = N := by omega
      go_wp2
      go_ret
      exact ⟨rfl, hO.below⟩

end Go.Proofs.Ytidnkienkdlmkaa
