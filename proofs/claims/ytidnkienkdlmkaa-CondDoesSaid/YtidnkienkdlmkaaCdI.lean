/-
  Contract of shuttlelaw17.awake: it returns true. No condition.
-/
import Derived.Test.YtidnkienkdlmkaaCdH
import Derived.Test.YtidnkienkdlmkaaSame
namespace Go.Proofs.Ytidnkienkdlmkaa
open Go.RowKit Go.Sh

abbrev ops4 : Obj := Obj.cells #[.int .i64 0, .int .i64 1, .bool false, .int .i64 2, .int .i64 1, .bool false, .int .i64 0, .int .i64 2, .bool false, .int .i64 3, .int .i64 0, .bool false] 61 (0, 0)

theorem ops12 {w : World} {b : Nat} (h : w.heap[b]? = some ops4) :
    (w.cell? ⟨b, 0, none⟩ = some (.int .i64 0) ∧ w.cell? ⟨b, 1, none⟩ = some (.int .i64 1) ∧ w.cell? ⟨b, 2, none⟩ = some (.bool false)) ∧
    (w.cell? ⟨b, 3, none⟩ = some (.int .i64 2) ∧ w.cell? ⟨b, 4, none⟩ = some (.int .i64 1) ∧ w.cell? ⟨b, 5, none⟩ = some (.bool false)) ∧
    (w.cell? ⟨b, 6, none⟩ = some (.int .i64 0) ∧ w.cell? ⟨b, 7, none⟩ = some (.int .i64 2) ∧ w.cell? ⟨b, 8, none⟩ = some (.bool false)) ∧
    (w.cell? ⟨b, 9, none⟩ = some (.int .i64 3) ∧ w.cell? ⟨b, 10, none⟩ = some (.int .i64 0) ∧ w.cell? ⟨b, 11, none⟩ = some (.bool false)) :=
  ⟨⟨cell_of_get h 0, cell_of_get h 1, cell_of_get h 2⟩, ⟨cell_of_get h 3, cell_of_get h 4, cell_of_get h 5⟩, ⟨cell_of_get h 6, cell_of_get h 7, cell_of_get h 8⟩, ⟨cell_of_get h 9, cell_of_get h 10, cell_of_get h 11⟩⟩

abbrev ka1 : KS := ⟨[], some 1, [], none, []⟩
abbrev ka2 : KS := ⟨[(1, false)], none, [], none, []⟩
abbrev ka3 : KS := ⟨[(1, false)], some 2, [], none, []⟩
abbrev ka4 : KS := ⟨[], some 2, [1], none, []⟩
abbrev ka5 : KS := ⟨[], some 1, [], none, []⟩

set_option maxRecDepth 100000 in
set_option maxHeartbeats 4000000 in
theorem awake30 (B : Nat) (w0 : World) (F : List (Nat × Obj)) (w : World) (hO : Own B w0 w F) :
    Calls Try.prog 30 #[] w fun e w' => e = .returned (.bool true) ∧ Own B w0 w' F := by
  have d1 : doesK ks0 0 1 false = ⟨true, 0, [], 0, ka1⟩ := rfl
  have d2 : doesK ka1 2 1 false = ⟨false, 0, [], 0, ka2⟩ := rfl
  have d3 : doesK ka2 0 2 false = ⟨true, 0, [], 0, ka3⟩ := rfl
  have d4 : doesK ka3 3 0 false = ⟨true, 0, [], 0, ka4⟩ := rfl
  have d5 : doesK ka4 1 2 false = ⟨true, 0, [⟨1, 0, 0, 0⟩], 0, ka5⟩ := rfl
  have D1 := Lib.hid d1
  have D2 := Lib.hid d2
  have D3 := Lib.hid d3
  have D4 := Lib.hid d4
  have D5 := Lib.hid d5
  clear d1 d2 d3 d4 d5
  go_enter Try.func30, Try.ntmps30
  go_wp2_with (go_at_call 29; refine (begun29 B w0 F _ hO).mono ?_; rintro e w1 ⟨bx, bc, b0, b1, L, rfl, hX, hO1⟩)
  have hO2 := (hO1.alloc ops4).shuf [[_], L, F] [1, 0, 2] rfl rfl
  refine wp_loop_rounds 5 ?_
  rw [rounds_succ]
  obtain ⟨P, hP⟩ : ∃ P, w1.heap.size = P := ⟨_, rfl⟩
  rw [hP] at hO2 ⊢
  clear hP hO hO1
  have hpb0 := hO2.get (P, ops4) (by simp [cat])
  obtain ⟨⟨p0, p1, p2⟩, _⟩ := ops12 hpb0
  have pl := lt_of_get hpb0
  have HO0 := Lib.hid (hO2.junk (opbx 0 1 false))
  clear hO2 hpb0
  go_wp2_with fail
  refine (does31 B w0 bx bc b0 b1 ks0 L _ 0 1 false _ hX (by simpa [cat] using HO0.out)).mono ?_
  rw [D1.out]
  rintro e v0 ⟨wk, Lw, L0, rfl, hSk, hX0, hO0a⟩
  dsimp only at hSk hX0 ⊢
  obtain ⟨ak, ck, rfl, _, _⟩ := hSk.form
  have hO0b := (hO0a.shuf [L0, Lw, [_], F] [0, 2, 3, 1] rfl rfl)
  have hO0c := (show Own B w0 v0 ((L0 ++ ((P, ops4) :: F)) ++ Lw) from by simpa [cat] using hO0b).left.junk (.cells #[.bool true, .int .i64 0, .int .i64 0, .int .i64 0, .slice ak 0 ck] 33)
  clear hO0a hO0b p0 p1 p2 pl HO0 hX hSk
  go_wp2_with fail
  rw [rounds_succ]
  have hpb1 := hO0c.get (P, ops4) (by simp)
  obtain ⟨_, ⟨p0, p1, p2⟩, _⟩ := ops12 hpb1
  have pl := lt_of_get hpb1
  have HO1 := Lib.hid (hO0c.junk (opbx 2 1 false))
  clear hO0c hpb1
  go_wp2_with fail
  refine (does31 B w0 bx bc b0 b1 ka1 L0 _ 2 1 false _ hX0 (by simpa [cat] using HO1.out)).mono ?_
  rw [D2.out]
  rintro e v1 ⟨wk, Lw, L1, rfl, hSk, hX1, hO1a⟩
  dsimp only at hSk hX1 ⊢
  obtain ⟨ak, ck, rfl, _, _⟩ := hSk.form
  have hO1b := (hO1a.shuf [L1, Lw, [_], F] [0, 2, 3, 1] rfl rfl)
  have hO1c := (show Own B w0 v1 ((L1 ++ ((P, ops4) :: F)) ++ Lw) from by simpa [cat] using hO1b).left.junk (.cells #[.bool false, .int .i64 0, .int .i64 0, .int .i64 0, .slice ak 0 ck] 33)
  clear hO1a hO1b p0 p1 p2 pl HO1 hX0 hSk
  go_wp2_with fail
  rw [rounds_succ]
  have hpb2 := hO1c.get (P, ops4) (by simp)
  obtain ⟨_, _, ⟨p0, p1, p2⟩, _⟩ := ops12 hpb2
  have pl := lt_of_get hpb2
  have HO2 := Lib.hid (hO1c.junk (opbx 0 2 false))
  clear hO1c hpb2
  go_wp2_with fail
  refine (does31 B w0 bx bc b0 b1 ka2 L1 _ 0 2 false _ hX1 (by simpa [cat] using HO2.out)).mono ?_
  rw [D3.out]
  rintro e v2 ⟨wk, Lw, L2, rfl, hSk, hX2, hO2a⟩
  dsimp only at hSk hX2 ⊢
  obtain ⟨ak, ck, rfl, _, _⟩ := hSk.form
  have hO2b := (hO2a.shuf [L2, Lw, [_], F] [0, 2, 3, 1] rfl rfl)
  have hO2c := (show Own B w0 v2 ((L2 ++ ((P, ops4) :: F)) ++ Lw) from by simpa [cat] using hO2b).left.junk (.cells #[.bool true, .int .i64 0, .int .i64 0, .int .i64 0, .slice ak 0 ck] 33)
  clear hO2a hO2b p0 p1 p2 pl HO2 hX1 hSk
  go_wp2_with fail
  rw [rounds_succ]
  have hpb3 := hO2c.get (P, ops4) (by simp)
  obtain ⟨_, _, _, ⟨p0, p1, p2⟩⟩ := ops12 hpb3
  have pl := lt_of_get hpb3
  have HO3 := Lib.hid (hO2c.junk (opbx 3 0 false))
  clear hO2c hpb3
  go_wp2_with fail
  refine (does31 B w0 bx bc b0 b1 ka3 L2 _ 3 0 false _ hX2 (by simpa [cat] using HO3.out)).mono ?_
  rw [D4.out]
  rintro e v3 ⟨wk, Lw, L3, rfl, hSk, hX3, hO3a⟩
  dsimp only at hSk hX3 ⊢
  obtain ⟨ak, ck, rfl, _, _⟩ := hSk.form
  have hO3b := (hO3a.shuf [L3, Lw, [_], F] [0, 2, 3, 1] rfl rfl)
  have hO3c := (show Own B w0 v3 ((L3 ++ ((P, ops4) :: F)) ++ Lw) from by simpa [cat] using hO3b).left.junk (.cells #[.bool true, .int .i64 0, .int .i64 0, .int .i64 0, .slice ak 0 ck] 33)
  clear hO3a hO3b p0 p1 p2 pl HO3 hX2 hSk
  go_wp2_with fail
  rw [rounds_succ]
  have HO5 := Lib.hid hO3c
  clear hO3c
  go_wp2_with fail
  refine (does31 B w0 bx bc b0 b1 ka4 L3 _ 1 2 false _ hX3 HO5.out).mono ?_
  rw [D5.out]
  rintro e v5 ⟨wk, Lw, L5, rfl, hSk, hX5, hO6⟩
  dsimp only at hSk hX5 ⊢
  obtain ⟨ak, ck, rfl, _, _⟩ := hSk.form
  obtain ⟨Lk, rfl, hK⟩ := hX5
  have hg := hO6.get (bx, gobjW bc b0 b1) (by simp)
  obtain ⟨g0, g1, g2⟩ := gob3 hg
  have gl := lt_of_get hg
  obtain ⟨Lm, hM, hLm⟩ := hK.mem false
  have hM2 : Mx b0 (some 1) [] Lm := hM
  have HO7 := Lib.hid (hO6.alloc (Obj.cells #[.bool true, .int .i64 0, .int .i64 0, .int .i64 0, .slice ak 1 ck] 33))
  clear hg hX3 HO5 hO6
  go_wp2_with fail
  refine (owner_any b0 (some 1) [] Lm _ hM2 (fun p hp => HO7.out.get p (by simp [hLm p hp]))).mono ?_
  rintro e v6 ⟨rfl, rfl⟩
  dsimp only [ownV, Option.getD_some, Option.isSome_some]
  have hO8 := HO7.out.allocAt (Obj.cells #[.int .i64 1, .int .i64 0, .int .i64 0, .int .i64 0] 38 (0, 0)) (n := v5.heap.size + 1) (by simp)
  have HR1 := Lib.hid (Sl_rd hSk (fun p hp => hO8.get p (by simp [hp])))
  have HR2 := Lib.hid (Sl_rd (slK (v5.heap.size + 1) ⟨1, 0, 0, 0⟩) (fun p hp => hO8.get p (by simp at hp; subst hp; simp)))
  have HO8 := Lib.hid hO8
  clear hO8 hSk HO7 g0 g1 g2 gl
  go_wp2_with (go_at_call 24; refine (same24 B w0 _ true 0 0 0 [⟨1, 0, 0, 0⟩] _ _ _ HR1.out HR2.out HO8.out (by simp)).mono ?_; rintro e w8 ⟨rfl, hO9⟩)
  go_ret
  exact ⟨rfl, hO9.tail.tail.right.right.tail⟩

end Go.Proofs.Ytidnkienkdlmkaa
