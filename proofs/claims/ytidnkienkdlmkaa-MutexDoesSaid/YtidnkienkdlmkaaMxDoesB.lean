/-
  shuttlelaw16.does: the mutex and the document's answer the same. Conditions: the owner and all that wait are threads.
-/
import Derived.Test.YtidnkienkdlmkaaMxDoes
namespace Go.Proofs.Ytidnkienkdlmkaa
open Go.RowKit Go.Sh

/-- The state behind an act. -/
def actS (own : Option Int) (ws : List Int) (d who : Int) : Option Int × List Int :=
  if d = 0 then ((lockR own ws who).own, (lockR own ws who).ws)
  else if d = 1 then ((unlockR own ws who).own, (unlockR own ws who).ws)
  else if d = 2 then (own, (dropR ws who).2) else (own, ws)

def DoesPost (B : Nat) (w0 : World) (bm br : Nat) (F : List (Nat × Obj)) (s : Option Int × List Int) (e : Ending) (w' : World) : Prop :=
  e = .returned (.bool true) ∧ ∃ Lm Lr, Mx bm s.1 s.2 Lm ∧ Rx br s.1 s.2 Lr ∧ Own B w0 w' (Lm ++ (Lr ++ F))

theorem doesPost_mk {B : Nat} {w0 : World} {bm br : Nat} {F Lm Lr : List (Nat × Obj)} {s s' : Option Int × List Int} {e : Ending} {w' : World} (HR : Hid (s = s')) (he : e = .returned (.bool true))
    (hM : Mx bm s'.1 s'.2 Lm) (hR : Rx br s'.1 s'.2 Lr) (hO : Own B w0 w' (Lm ++ (Lr ++ F))) : DoesPost B w0 bm br F s e w' := by
  rw [HR.out]
  exact ⟨he, Lm, Lr, hM, hR, hO⟩

/-- The cells of an Out that lies in a block. -/
theorem out_cells {w : World} {b : Nat} {d : Bool} {t n f : Int} {wk : Value} (h : w.heap[b]? = some (.cells #[.bool d, .int .i64 t, .int .i64 n, .int .i64 f, wk] 33 (0, 0))) :
    w.cell? ⟨b, 0, none⟩ = some (.bool d) ∧ w.cell? ⟨b, 1, none⟩ = some (.int .i64 t) ∧ w.cell? ⟨b, 2, none⟩ = some (.int .i64 n) ∧ w.cell? ⟨b, 3, none⟩ = some (.int .i64 f) ∧ w.cell? ⟨b, 4, none⟩ = some wk :=
  ⟨cell_of_get h 0, cell_of_get h 1, cell_of_get h 2, cell_of_get h 3, cell_of_get h 4⟩

set_option maxRecDepth 100000 in
set_option maxHeartbeats 4000000 in
theorem does27 (B : Nat) (w0 : World) (bm br : Nat) (own : Option Int) (ws : List Int) (Lm Lr F : List (Nat × Obj)) (d who : Int) (w : World) (hM : Mx bm own ws Lm) (hR : Rx br own ws Lr) (hp : ∀ x ∈ ws, 0 ≤ x) (hO : Own B w0 w (Lm ++ (Lr ++ F))) :
    Calls Try.prog 27 #[.pointer (some ⟨bm, 0, none⟩), .pointer (some ⟨br, 0, none⟩), .agg #[.int .i64 d, .int .i64 who]] w (DoesPost B w0 bm br F (actS own ws d who)) := by
  have hO1 := (hO.alloc (.cells #[.int .i64 d, .int .i64 who] 28)).shuf [[_], Lm, Lr, F] [1, 2, 0, 3] rfl rfl
  by_cases hd0 : d = 0
  · subst hd0
    have HR := Lib.hid (show actS own ws 0 who = ((lockR own ws who).own, (lockR own ws who).ws) by simp [actS])
    obtain ⟨r, hr⟩ : ∃ r, lockR own ws who = r := ⟨_, rfl⟩
    rw [hr] at HR
    have HLR := Lib.hid hr
    clear hr hO hp
    obtain ⟨dn, ft, er, own', ws'⟩ := r
    dsimp only at HR
    go_enter Try.func27, Try.ntmps27
    go_wp2_with fail
    refine (lock_any B w0 bm own ws Lm _ who _ hM hO1).mono ?_
    rintro e w1 ⟨rfl, L1, hM1, hO2⟩
    rw [HLR.out] at hM1 ⊢
    dsimp only at hM1 ⊢
    have ho : w1.heap[w.heap.size]? = some (Obj.cells #[.int .i64 0, .int .i64 who] 28 (0, 0)) := hO2.get (w.heap.size, _) (by simp [cat])
    have o1 : w1.cell? ⟨w.heap.size, 1, none⟩ = some (.int .i64 who) := cell_of_get ho 1
    have ol := lt_of_get ho
    have hO3 := (hO2.alloc (.cells #[.bool dn, .int .i64 0, .int .i64 0, .int .i64 ft, .slice none 0 0] 33)).shuf [[_], L1, Lr, [_], F] [2, 1, 0, 3, 4] rfl rfl
    clear ho hO2 hO1 hM
    go_wp2_with fail
    refine (rlock66 B w0 br own ws Lr _ who _ hR hO3).mono ?_
    rintro e w2 ⟨rfl, L2, hR2, hO4⟩
    rw [HLR.out] at hR2 ⊢
    dsimp only at hR2 ⊢
    have hx : w2.heap[w1.heap.size]? = some (Obj.cells #[.bool dn, .int .i64 0, .int .i64 0, .int .i64 ft, .slice none 0 0] 33 (0, 0)) := hO4.get (w1.heap.size, _) (by simp [cat])
    obtain ⟨x0, x1, x2, x3, x4⟩ := out_cells hx
    have xl := lt_of_get hx
    have hO5 := (hO4.alloc (.cells #[.bool dn, .int .i64 0, .int .i64 0, .int .i64 ft, .slice none 0 0] 33)).shuf [[_], L2, L1, [_], [_], F] [2, 1, 0, 3, 4, 5] rfl rfl
    clear hx hO4 hO3 hR o1 ol
    go_wp2_with fail
    refine (same24 B w0 _ dn 0 0 ft [] _ _ _ (.inl ⟨rfl, none, 0, rfl⟩) (.inl ⟨rfl, none, 0, rfl⟩) hO5 (by simp)).mono ?_
    rintro e w3 ⟨rfl, hO6⟩
    go_wp2
    go_ret
    exact doesPost_mk HR rfl hM1 hR2 (by simpa [cat] using (hO6.shuf [L1, L2, [_], [_], [_], F] [2, 3, 4, 0, 1, 5] rfl rfl).tail.tail.tail)
  · have hb0 : (d == 0) = false := by simp [hd0]
    by_cases hd1 : d = 1
    · subst hd1
      have HR := Lib.hid (show actS own ws 1 who = ((unlockR own ws who).own, (unlockR own ws who).ws) by simp [actS])
      obtain ⟨r, hr⟩ : ∃ r, unlockR own ws who = r := ⟨_, rfl⟩
      rw [hr] at HR
      have HLR := Lib.hid hr
      clear hr hO
      obtain ⟨dn, ft, er, own', ws', wks⟩ := r
      have hwl : wks.length ≤ 1 := by
        have := congrArg (fun r => r.wakes.length) HLR.out
        dsimp only at this
        rw [← this]
        rcases unlockR_cases own ws who with h | h | ⟨_, _, h⟩ | ⟨x, r, _, _, h⟩ <;> simp [h]
      dsimp only at HR
      go_enter Try.func27, Try.ntmps27
      go_wp2_with fail
      refine (unlock_any B w0 bm own ws Lm _ who _ hM hO1).mono ?_
      rintro e w1 ⟨wk1, K1, L1, rfl, hK1, hM1, hO2⟩
      rw [HLR.out] at hM1 hK1 ⊢
      dsimp only at hM1 hK1 ⊢
      obtain ⟨a1, c1, rfl, _, _⟩ := hK1.form
      have ho : w1.heap[w.heap.size]? = some (Obj.cells #[.int .i64 1, .int .i64 who] 28 (0, 0)) := hO2.get (w.heap.size, _) (by simp [cat])
      have o1 : w1.cell? ⟨w.heap.size, 1, none⟩ = some (.int .i64 who) := cell_of_get ho 1
      have ol := lt_of_get ho
      have hO3 := (hO2.alloc (.cells #[.bool dn, .int .i64 0, .int .i64 0, .int .i64 ft, .slice a1 wks.length c1] 33)).shuf [[_], L1, K1, Lr, [_], F] [3, 1, 2, 0, 4, 5] rfl rfl
      clear ho hO2 hO1 hM
      go_wp2_with fail
      refine (runlock67 B w0 br own ws Lr _ who _ hR hp hO3).mono ?_
      rintro e w2 ⟨wk2, K2, L2, rfl, hK2, hR2, hO4⟩
      rw [HLR.out] at hR2 hK2 ⊢
      dsimp only at hR2 hK2 ⊢
      obtain ⟨a2, c2, rfl, _, _⟩ := hK2.form
      have hx : w2.heap[w1.heap.size]? = some (Obj.cells #[.bool dn, .int .i64 0, .int .i64 0, .int .i64 ft, .slice a1 wks.length c1] 33 (0, 0)) := hO4.get (w1.heap.size, _) (by simp [cat])
      obtain ⟨x0, x1, x2, x3, x4⟩ := out_cells hx
      have xl := lt_of_get hx
      have hO5 := (hO4.alloc (.cells #[.bool dn, .int .i64 0, .int .i64 0, .int .i64 ft, .slice a2 wks.length c2] 33)).shuf [[_], L2, K2, L1, K1, [_], [_], F] [3, 1, 2, 4, 0, 5, 6, 7] rfl rfl
      clear hx hO4 hO3 hR o1 ol hp
      go_wp2_with fail
      refine (same24 B w0 _ dn 0 0 ft wks _ _ _ (Sl_rd hK1 (fun p hp => hO5.get p (by simp [cat, hp]))) (Sl_rd hK2 (fun p hp => hO5.get p (by simp [cat, hp]))) hO5 (by omega)).mono ?_
      rintro e w3 ⟨rfl, hO6⟩
      go_wp2
      go_ret
      exact doesPost_mk HR rfl hM1 hR2 (by simpa [cat] using (hO6.shuf [L1, L2, K2, K1, [_], [_], [_], F] [2, 3, 4, 5, 6, 0, 1, 7] rfl rfl).right.right.tail.tail.tail)
    · have hb1 : (d == 1) = false := by simp [hd1]
      by_cases hd2 : d = 2
      · subst hd2
        have HR := Lib.hid (show actS own ws 2 who = (own, (dropR ws who).2) by simp [actS])
        obtain ⟨r, hr⟩ : ∃ r, dropR ws who = r := ⟨_, rfl⟩
        rw [hr] at HR
        have HLR := Lib.hid hr
        clear hr hO hp
        obtain ⟨er, ws'⟩ := r
        dsimp only at HR
        go_enter Try.func27, Try.ntmps27
        go_wp2_with fail
        have hO1s := hO1.shuf [Lm, Lr, [_], F] [1, 0, 2, 3] rfl rfl
        go_region_law (first | (go_simp; go_at_call 22; refine (drop_any B w0 bm own ws Lm _ who _ hM hO1.drew).mono ?_; rintro e w1 ⟨rfl, L1, hM1, hO2⟩; rw [HLR.out] at hM1 ⊢; have o1 : w1.cell? ⟨w.heap.size, 1, none⟩ = some (.int .i64 who) := cell_of_get (hO2.get (w.heap.size, Obj.cells #[.int .i64 2, .int .i64 who] 28 (0, 0)) (by simp [cat])) 1; have hP := hO2.shuf [L1, Lr, [_], F] [1, 0, 2, 3] rfl rfl; clear hO1 hO2 hO1s) | (go_simp; go_at_call 22; refine (drop_any B w0 bm own ws Lm _ who _ hM hQ).mono ?_; rintro e w2 ⟨rfl, L2, hM2, hO3⟩; rw [HLR.out] at hM2 ⊢; clear hQ) | (go_simp; go_at_call 68; refine (rdrop68 B w0 br own ws Lr _ who _ hR hO1s.drew).mono ?_; rintro e w1 ⟨rfl, L1, hR1, hO2⟩; rw [HLR.out] at hR1 ⊢; have o1 : w1.cell? ⟨w.heap.size, 1, none⟩ = some (.int .i64 who) := cell_of_get (hO2.get (w.heap.size, Obj.cells #[.int .i64 2, .int .i64 who] 28 (0, 0)) (by simp [cat])) 1; have hQ := hO2.shuf [L1, Lm, [_], F] [1, 0, 2, 3] rfl rfl; clear hO1 hO2 hO1s) | (go_simp; go_at_call 68; refine (rdrop68 B w0 br own ws Lr _ who _ hR hP).mono ?_; rintro e w2 ⟨rfl, L2, hR2, hO3⟩; rw [HLR.out] at hR2 ⊢; clear hP))
        all_goals
          go_wp2
          go_ret
          first
            | exact doesPost_mk HR rfl hM1 hR2 (by simpa [cat] using (hO3.shuf [L2, L1, [_], F] [2, 1, 0, 3] rfl rfl).tail)
            | exact doesPost_mk HR rfl hM2 hR1 (by simpa [cat] using (hO3.shuf [L2, L1, [_], F] [2, 0, 1, 3] rfl rfl).tail)
      · have hb2 : (d == 2) = false := by simp [hd2]
        have HR := Lib.hid (show actS own ws d who = (own, ws) by simp [actS, hd0, hd1, hd2])
        go_enter Try.func27, Try.ntmps27
        go_wp2
        go_ret
        exact doesPost_mk HR rfl hM hR (hO.junk _)

end Go.Proofs.Ytidnkienkdlmkaa
