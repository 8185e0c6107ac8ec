/-
  The walk of shuttlelaw16.MutexDoes: it returns true. No condition.
-/
import Derived.Test.YtidnkienkdlmkaaMxDoesB
namespace Go.Proofs.Ytidnkienkdlmkaa
open Go.RowKit Go.Sh

theorem act_pos {own : Option Int} {ws : List Int} (d who : Int) (h : ∀ x ∈ ws, 0 ≤ x) : ∀ x ∈ (actS own ws d who).2, 0 ≤ x := by
  unfold actS
  split
  · rcases lockR_cases own ws who with hr | ⟨_, hr⟩ | ⟨rfl, h0, hr⟩ | hr | ⟨h0, hs, h256, hr⟩ <;> rw [hr]
    · exact h
    · exact h
    · exact h
    · exact h
    · intro x hx
      rcases List.mem_append.1 hx with h' | h'
      · exact h x h'
      · simp at h'; subst h'; exact h0
  · split
    · rcases unlockR_cases own ws who with hr | hr | ⟨rfl, rfl, hr⟩ | ⟨x, r, rfl, rfl, hr⟩ <;> rw [hr]
      · exact h
      · exact h
      · simp
      · exact fun y hy => h y (List.mem_cons_of_mem _ hy)
    · split
      · unfold dropR
        split
        · exact h
        · intro x hx
          have hs : (ws.take (idx ws who).toNat ++ ws.drop ((idx ws who).toNat + 1)).Sublist ws := by
            rw [← List.eraseIdx_eq_take_drop_succ]
            exact List.eraseIdx_sublist _ _
          exact h x (hs.subset hx)
      · exact h

def DoesRel (B : Nat) (w0 : World) (br n : Nat) (m i : Value) (wr : World) : Prop :=
  ∃ (k bm : Nat) (own : Option Int) (ws : List Int) (Lm Lr : List (Nat × Obj)), k ≤ n ∧ i = .int .i64 k ∧ m = .pointer (some ⟨bm, 0, none⟩) ∧ (∀ x ∈ ws, 0 ≤ x) ∧ Mx bm own ws Lm ∧ Rx br own ws Lr ∧ Own B w0 wr (Lm ++ Lr)

set_option maxRecDepth 100000 in
set_option maxHeartbeats 4000000 in
theorem does6 (xs : List (Int × Int)) (ao : Option Addr) (cap : Nat) (w : World) (hR : Rd w O2 (.slice ao xs.length cap) xs) (_ : ∀ x ∈ xs, True) (hx : xs.length ≤ 9223372036854775807) (hcap : xs.length ≤ cap) :
    Calls Try.prog 6 #[.slice ao xs.length cap] w fun e w' => e = .returned (.bool true) ∧ Below w.heap.size w w' := by
  obtain ⟨ao', cap', he, r1⟩ := rd_ops hR
  simp only [Value.slice.injEq, true_and] at he
  obtain ⟨rfl, rfl⟩ := he
  have R1 := Lib.hid r1
  obtain ⟨N, hN1, hN2, hmin⟩ : ∃ N : Nat, N ≤ xs.length ∧ N ≤ 80 ∧ (if (80 : Int) < (xs.length : Int) then 80 else (xs.length : Int)) = (N : Int) := ⟨min xs.length 80, by omega, by omega, by split <;> omega⟩
  clear r1 hR
  have hO0 := ((Own.start w).alloc (.cells #[.bool true, .pointer none, .slice none 0 0] 48)).allocAt (.cells #[.int .i64 (-1), .slice none 0 0] 87) (n := w.heap.size + 1) (by simp)
  go_enter Try.func6, Try.ntmps6
  go_wp2_with (first | (go_at_call 15; refine (new15 _).mono ?_; rintro e w' ⟨rfl, rfl⟩) | (go_at_call 26; refine (rnew26 _).mono ?_; rintro e w' ⟨rfl, rfl⟩))
  refine (awake16 _ w _ _ hO0).mono ?_
  rintro e w1 ⟨rfl, hO1⟩
  go_wp2
  clear hmin
  go_loopw [3, 22] (fun m i wr => DoesRel w.heap.size w (w.heap.size + 1) N m i wr) (fun _ i _ => N - (intOf i).toNat)
  case atStart => exact ⟨0, w.heap.size, none, [], [_], [_], Nat.zero_le _, rfl, rfl, by simp, Mx.new _, Rx.new _, hO1.shuf [[_], [_]] [1, 0] rfl rfl⟩
  case round =>
    obtain ⟨k, bm, own, ws, Lm, Lr, hk, rfl, rfl, hpos, hM, hRx, hO⟩ := hrel
    clear hO0 hO1
    by_cases hlt : k < N
    · obtain ⟨g, off, rfl, e1, e2⟩ := R1.out k (by omega)
      have hb1 := World.block_lt_of_cell? _ _ e1
      have c1 := (hO.below.cell (p := ⟨g, off + k * 2, none⟩) hb1).trans e1
      have c2 := (hO.below.cell (p := ⟨g, off + k * 2 + 1, none⟩) hb1).trans e2
      have hkx : k < xs.length := by omega
      clear e1 e2
      obtain ⟨⟨d, who⟩, hop⟩ : ∃ x, xs[k] = x := ⟨_, rfl⟩
      rw [hop] at c1 c2
      clear hop
      dsimp only at c1 c2
      have HPOS := Lib.hid hpos
      have HPOS2 := Lib.hid (act_pos (own := own) d who hpos)
      have hO2 := (hO.alloc (.cells #[.int .i64 d, .int .i64 who] 28)).shuf [[_], Lm, Lr] [1, 2, 0] rfl rfl
      clear hpos hO
      go_wp2_with fail
      refine (does27 _ _ bm _ own ws Lm Lr _ d who _ hM hRx HPOS.out hO2).mono ?_
      rintro e w2 ⟨rfl, L1, L2, hM1, hR1, hO3⟩
      clear hM hRx hO2 HPOS
      have hS3 : (actS own ws d who).1 = own ∧ (actS own ws d who).2 = ws ∨ ¬ d = 3 := by
        by_cases h : d = 3
        · subst h; exact .inl ⟨by simp [actS], by simp [actS]⟩
        · exact .inr h
      generalize (actS own ws d who).1 = own' at hM1 hR1 HPOS2 hS3
      generalize (actS own ws d who).2 = ws' at hM1 hR1 HPOS2 hS3
      have hO4 := hO3.shuf [L1, L2, [_]] [0, 1, 2] rfl rfl
      have ho : w2.heap[wr.heap.size]? = some (Obj.cells #[.int .i64 d, .int .i64 who] 28 (0, 0)) := hO3.get (wr.heap.size, _) (by simp [cat])
      have o0 : w2.cell? ⟨wr.heap.size, 0, none⟩ = some (.int .i64 d) := cell_of_get ho 0
      have o1 : w2.cell? ⟨wr.heap.size, 1, none⟩ = some (.int .i64 who) := cell_of_get ho 1
      clear hO3 ho hS3
      go_wp2_with fail
      refine (same28 _ _ bm _ own' ws' L1 L2 _ _ hM1 hR1 (fun p hp => by simp [cat, hp]) (fun p hp => by simp [cat, hp]) hO4).mono ?_
      rintro e w3 ⟨rfl, hO5⟩
      have ho : w3.heap[wr.heap.size]? = some (Obj.cells #[.int .i64 d, .int .i64 who] 28 (0, 0)) := hO5.get (wr.heap.size, _) (by simp [cat])
      have p0 : w3.cell? ⟨wr.heap.size, 0, none⟩ = some (.int .i64 d) := cell_of_get ho 0
      have p1 : w3.cell? ⟨wr.heap.size, 1, none⟩ = some (.int .i64 who) := cell_of_get ho 1
      clear o0 o1 hO4 ho
      by_cases hd : d = 3
      · have hdb : (d != 3) = false := by simp [hd]
        go_wp2_with fail
        refine (mclone_any _ _ bm own' ws' L1 _ _ hM1 hO5 (fun p hp => by simp [cat, hp])).mono ?_
        rintro e w4 ⟨b4, L4, rfl, hM4, hO6⟩
        have hO7 := hO6.shuf [L4, L1, L2, [_]] [1, 0, 2, 3] rfl rfl
        clear hO6 hO5
        go_wp2_with fail
        refine (lock_any _ _ bm own' ws' L1 _ 77 _ hM1 hO7).mono ?_
        rintro e w5 ⟨rfl, L5, hM5, hO8⟩
        have ho : w5.heap[wr.heap.size]? = some (Obj.cells #[.int .i64 d, .int .i64 who] 28 (0, 0)) := hO8.get (wr.heap.size, _) (by simp [cat])
        have q1 : w5.cell? ⟨wr.heap.size, 1, none⟩ = some (.int .i64 who) := cell_of_get ho 1
        clear ho hO7 p0 p1
        go_wp2_with fail
        refine (unlock_any _ _ bm _ _ L5 _ who _ hM5 hO8).mono ?_
        rintro e w6 ⟨wk, Lk, L6, rfl, hK, hM6, hO9⟩
        have ho : w6.heap[wr.heap.size]? = some (Obj.cells #[.int .i64 d, .int .i64 who] 28 (0, 0)) := hO9.get (wr.heap.size, _) (by simp [cat])
        have q2 : w6.cell? ⟨wr.heap.size, 1, none⟩ = some (.int .i64 who) := cell_of_get ho 1
        clear ho hO8 q1
        go_wp2_with fail
        refine (drop_any _ _ bm _ _ L6 _ who _ hM6 hO9).mono ?_
        rintro e w7 ⟨rfl, L7, hM7, hO10⟩
        clear hO9 q2
        have hO11 := (hO10.right.right.shuf [L4, L2, [_]] [0, 1, 2] rfl rfl)
        go_wp2
        exact ⟨⟨k + 1, b4, own', ws', L4, L2, by omega, by go_num, rfl, HPOS2.out, hM4, hR1, (hO11.shuf [L4, L2, [_]] [2, 0, 1] rfl rfl).tail⟩, by simp [intOf]; omega⟩
      · have hdb : (d != 3) = true := by simp [hd]
        go_wp2
        exact ⟨⟨k + 1, bm, own', ws', L1, L2, by omega, by go_num, rfl, HPOS2.out, hM1, hR1, (hO5.shuf [L1, L2, [_]] [2, 0, 1] rfl rfl).tail⟩, by simp [intOf]; omega⟩
    · obtain rfl : k = N := by omega
      go_wp2_with fail
      refine (same28 _ _ bm _ own ws Lm Lr _ _ hM hRx (fun p hp => by simp [hp]) (fun p hp => by simp [hp]) hO).mono ?_
      rintro e w3 ⟨rfl, hO5⟩
      go_wp2
      go_ret
      exact ⟨rfl, hO5.below⟩

end Go.Proofs.Ytidnkienkdlmkaa
