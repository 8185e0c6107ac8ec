/-
  shuttleref19: contract of Push. Conditions: 1 to 16 workers, at most 1,024 threads in a queue.
-/
import Derived.Test.YtojcojoleodjmaaRfA
namespace Go.Proofs.Ytojcojoleodjmaa
open Go.RowKit Go.Sh

def RPushPost (B : Nat) (w0 : World) (b br n : Nat) (F : List (Nat × Obj)) (st : Int) (r : Int × (Nat → List Int)) (e : Ending) (w' : World) : Prop :=
  e = .returned (.int .i64 r.1) ∧ ∃ L', Rqx b br n r.2 st L' ∧ Own B w0 w' (L' ++ F)

theorem findQ_isSome {n : Nat} {ls : Nat → List Int} {who : Int} {i : Nat} (hi : i < n) (h : (ls i).contains who = true) : (findQ n ls who).isSome = true := by
  cases hf : findQ n ls who with
  | none =>
    have := findQ_mem.1 hf
    exact absurd (mem_cont.2 ⟨i, hi, by simpa using h⟩) this
  | some _ => rfl

set_option maxRecDepth 100000 in
set_option maxHeartbeats 4000000 in
theorem rpush26 (B : Nat) (w0 : World) (b br n : Nat) (ls : Nat → List Int) (st : Int) (L F : List (Nat × Obj)) (worker who : Int) (w : World) (hX : Rqx b br n ls st L) (hO : Own B w0 w (L ++ F)) :
    Calls Try.prog 26 #[.pointer (some ⟨b, 0, none⟩), .int .i64 worker, .int .i64 who] w (RPushPost B w0 b br n F st (pushQ n ls worker who)) := by
  have hX' := hX
  obtain ⟨vs, Ls, hQ, rfl⟩ := hX'
  obtain ⟨hc0, _, hck⟩ := r_cells hO
  have HCK := Lib.hid hck
  have HRD := Lib.hid (show ∀ k, k < 16 → Rd w I (vs k) (ls k) from fun k hk => r_rd hQ hO hk)
  have hpos := hQ.pos
  have htop := hQ.top
  have HLEN := Lib.hid hQ.len
  clear hck
  rcases mayQ_cases n worker with h1 | ⟨h1, k, rfl, hk⟩
  · have HR := Lib.hid (show pushQ n ls worker who = (1, ls) by simp [pushQ, h1])
    unfold mayQ at h1
    by_cases h2 : worker < 0
    · clear h1
      go_enter Try.func26, Try.ntmps26
      go_wp2
      go_ret
      rw [HR.out]
      exact ⟨rfl, _, hX, hO⟩
    · have h3 : (n : Int) ≤ worker := by
        rcases Int.lt_or_le worker n with h | h
        · rw [if_neg (by omega)] at h1; cases h1
        · exact h
      clear h1
      go_enter Try.func26, Try.ntmps26
      go_wp2
      go_ret
      rw [HR.out]
      exact ⟨rfl, _, hX, hO⟩
  · have hk1 : decide (n ≤ k) = false := by simp; omega
    have hk2 : ¬ (n : Int) ≤ k := by omega
    have hk3 : ¬ (k : Int) < 0 := by omega
    by_cases h2 : who < 0 ∨ 65536 ≤ who
    · have HR := Lib.hid (show pushQ n ls k who = (1, ls) by simp [pushQ, h1, h2])
      have HT := Lib.hid (show thrB who = false by unfold thrB; rcases h2 with h | h <;> simp <;> omega)
      clear h1 h2
      go_enter Try.func26, Try.ntmps26
      go_wp2_with (go_at_call 53; refine (thread53 who _).mono ?_; rintro e w' ⟨rfl, rfl⟩; rw [HT.out])
      go_ret
      rw [HR.out]
      exact ⟨rfl, _, hX, hO⟩
    · have HT := Lib.hid (show thrB who = true by unfold thrB; simp; omega)
      have H1 := Lib.hid h1
      have H2 := Lib.hid h2
      clear h1 h2
      go_enter Try.func26, Try.ntmps26
      go_wp2_with (go_at_call 53; refine (thread53 who _).mono ?_; rintro e w' ⟨rfl, rfl⟩; rw [HT.out])
      go_loop [7] (fun i => ∃ k : Nat, k ≤ n ∧ i = .int .i64 k ∧ ∀ j, j < k → (ls j).contains who = false) (fun i => n - (intOf i).toNat)
      case atStart => exact ⟨0, Nat.zero_le _, rfl, fun _ h => by omega⟩
      case round =>
        obtain ⟨i, hi, rfl, hno⟩ := hrel
        have HN := Lib.hid hno
        clear hno
        by_cases hlt : i < n
        · have hcell := HCK.out i hlt
          have hlen := HLEN.out i (by omega)
          have hge := idx_ge (ls i) who
          rcases idx_cases (ls i) who with h1 | ⟨q, hq, h1⟩
          · have hcf : (ls i).contains who = false := by rw [← hge, h1]; rfl
            have H3 := Lib.hid h1
            have HC := Lib.hid hcf
            clear hge h1 hcf
            go_wp2_with (go_at_call 54; refine (at54 (ls i) who _ _ (by omega) (HRD.out i (by omega))).mono ?_; rintro e w' ⟨rfl, rfl⟩; rw [H3.out])
            go_round
            case rel => exact ⟨i + 1, by omega, by go_num, fun j hj => by
              rcases Nat.lt_succ_iff_lt_or_eq.1 hj with h' | rfl
              · exact HN.out j h'
              · exact HC.out⟩
            case measure => simp [intOf]; omega
          · have hcf : (ls i).contains who = true := by rw [← hge, h1]; simp
            have HR := Lib.hid (show pushQ n ls k who = (1, ls) by simp [pushQ, H1.out, findQ_isSome hlt hcf])
            have H3 := Lib.hid h1
            clear hge h1 hcf
            go_wp2_with (go_at_call 54; refine (at54 (ls i) who _ _ (by omega) (HRD.out i (by omega))).mono ?_; rintro e w' ⟨rfl, rfl⟩; rw [H3.out])
            go_ret
            rw [HR.out]
            exact ⟨rfl, _, hX, hO⟩
        · obtain rfl : i = n := by omega
          have hf : findQ i ls who = none := findQ_none HN.out
          have hlen := HLEN.out k (by omega)
          have hcell := HCK.out k hk
          have hs := hQ.sl k (by omega)
          obtain ⟨ao, cap, hv, hcap, hcm⟩ := hs.form
          rw [hv] at hcell
          by_cases h8 : 1024 ≤ (ls k).length
          · have HR := Lib.hid (show pushQ i ls k who = (7, ls) by simp [pushQ, H1.out, hf, H2.out, h8])
            have h8' : (1024 : Int) ≤ (ls k).length := by omega
            clear hf hv
            go_wp2
            go_ret
            rw [HR.out]
            exact ⟨rfl, _, hX, hO⟩
          · obtain ⟨i0, hinf, hz0, hz1, hz2⟩ := info_parts Try.info3
            have HR := Lib.hid (show pushQ i ls k who = (0, upd ls k (ls k ++ [who])) by simp [pushQ, H1.out, hf, H2.out, h8])
            have h8' : ¬ (1024 : Int) ≤ (ls k).length := by omega
            have hO6 := hO.perm (rown_open b br i vs Ls st F (show k < 16 by omega))
            rw [hv] at hs
            have HV := Lib.hid hv
            have HQ := Lib.hid hQ
            have hS := Lib.hid hs
            clear hf hv hX hO hQ hs HCK HRD
            go_wp2
            have hOd := hO6.drew
            have hOe := (hO6.alloc (.cells #[.int .i64 who] 3)).drew
            have hlt0 : b < w.heap.size := World.block_lt_of_cell? _ _ hc0
            have hlt1 : br < w.heap.size := World.block_lt_of_cell? _ _ hcell
            have hlt2 : b < w.heap.size + 1 := by omega
            have hlt3 : br < w.heap.size + 1 := by omega
            go_region_law (first
              | (refine step_append_all rfl (.const (.slice none 0 0)) (.tmp 63) 28 rfl _ _ _ Try.underlying28 hinf hz0 hz1 hz2 rfl I_len I_one rfl (Sl.nil (e := 3) (k := 1) (enc := I)) (F := Ls k ++ ((b, rhead br i st) :: (br, robj i vs) :: (rest 16 k Ls ++ F))) hOd _ rfl (ls k) (Ls k) (by exact hS.out) (by intro p hp; exact List.mem_append_left _ hp) (by simp only [List.length_nil, maxLen]; omega) (by simp only [List.length_nil]; omega) (ls k).length (by simp) ?_; intro ao1 cap1 w1 L1 hS1 hO1 hge1; rw [List.nil_append] at hS1; obtain ⟨k0, _, k2⟩ := r_cells (hO1.right.perm (rown_open b br i vs Ls st F (show k < 16 by omega)).symm); have k3 := k2 k hk; rw [HV.out] at k3; have hltb := World.block_lt_of_cell? _ _ k0; have hltr := World.block_lt_of_cell? _ _ k3; have HS1 := Lib.hid hS1; clear hS1 k2)
              | (refine step_append_sl rfl (.tmp 64) (.tmp 66) 28 rfl _ _ _ Try.underlying28 hinf hz0 hz1 hz2 rfl I_len I_one rfl (by exact HS1.out) (by exact hO1.junk _) ⟨w1.heap.size, 0, none⟩ [who] 1 1 rfl rfl (news_one (x := .int .i64 who) (by simp)) (by decide) (by unfold maxLen; omega) (by omega) ?_; intro g off cap2 w2 L2 hS2 hO2 hg2 hge2; have hO3 := (hO2.perm (List.perm_append_comm_assoc _ _ _)).right; have hrow : w2.heap[br]? = some (robj i vs) := hO3.get (br, robj i vs) (by simp); have k4 : w2.cell? ⟨br, k, none⟩ = some (.slice ao (ls k).length cap) := (cell_of_get hrow k).trans ((rrow_k vs hk).trans (congrArg some HV.out)); have k5 : w2.frozen? ⟨br, k, none⟩ = false := free_of_get hrow k; have k6 : w2.cell? ⟨b, 0, none⟩ = some (.slice (some ⟨br, 0, none⟩) i i) := cell_of_get (hO3.get (b, rhead br i st) (by simp)) 0; clear hrow)
              | (refine step_append_all rfl (.const (.slice none 0 0)) (.tmp 63) 28 rfl _ _ _ Try.underlying28 hinf hz0 hz1 hz2 rfl I_len I_one rfl (Sl.nil (e := 3) (k := 1) (enc := I)) (F := (w.heap.size, Obj.cells #[.int .i64 who] 3 (0, 0)) :: (Ls k ++ ((b, rhead br i st) :: (br, robj i vs) :: (rest 16 k Ls ++ F)))) hOe _ rfl (ls k) (Ls k) (by exact hS.out) (by intro p hp; exact List.mem_cons_of_mem _ (List.mem_append_left _ hp)) (by simp only [List.length_nil, maxLen]; omega) (by simp only [List.length_nil]; omega) (ls k).length (by simp) ?_; intro ao1 cap1 w1 L1 hS1 hO1 hge1; rw [List.nil_append] at hS1; have hN : w1.cell? ⟨w.heap.size, 0, none⟩ = some (.int .i64 who) := cell_of_get (hO1.get (w.heap.size, Obj.cells #[.int .i64 who] 3 (0, 0)) (by simp)) 0; have hO1 := (hO1.perm List.perm_middle).tail; obtain ⟨k0, _, k2⟩ := r_cells (hO1.right.perm (rown_open b br i vs Ls st F (show k < 16 by omega)).symm); have k3 := k2 k hk; rw [HV.out] at k3; have hltb := World.block_lt_of_cell? _ _ k0; have hltr := World.block_lt_of_cell? _ _ k3; have HS1 := Lib.hid hS1; clear hS1 k2)
              | (refine step_append_sl rfl (.tmp 64) (.tmp 66) 28 rfl _ _ _ Try.underlying28 hinf hz0 hz1 hz2 rfl I_len I_one rfl (by exact HS1.out) (by exact hO1) ⟨w.heap.size, 0, none⟩ [who] 1 1 rfl rfl (news_one (x := .int .i64 who) hN) (by decide) (by unfold maxLen; omega) (by omega) ?_; intro g off cap2 w2 L2 hS2 hO2 hg2 hge2; have hO3 := (hO2.perm (List.perm_append_comm_assoc _ _ _)).right; have hrow : w2.heap[br]? = some (robj i vs) := hO3.get (br, robj i vs) (by simp); have k4 : w2.cell? ⟨br, k, none⟩ = some (.slice ao (ls k).length cap) := (cell_of_get hrow k).trans ((rrow_k vs hk).trans (congrArg some HV.out)); have k5 : w2.frozen? ⟨br, k, none⟩ = false := free_of_get hrow k; have k6 : w2.cell? ⟨b, 0, none⟩ = some (.slice (some ⟨br, 0, none⟩) i i) := cell_of_get (hO3.get (b, rhead br i st) (by simp)) 0; clear hrow))
            all_goals
              have hO4 := r_put hO3 (show k < 16 by omega) (.slice (some ⟨g, off, none⟩) ((ls k).length + 1) cap2)
              have hQ' := HQ.out.set (k := k) (v := .slice (some ⟨g, off, none⟩) ((ls k).length + 1) cap2) (xs := ls k ++ [who]) (by simpa using hS2) (by simp; omega)
              clear hO6 hOd hOe hO1 hO2 hO3 k0 k3 k4 k5 k6 hS2
              go_wp2
              go_ret
              rw [HR.out]
              exact ⟨rfl, _, ⟨_, _, hQ', rfl⟩, hO4⟩

end Go.Proofs.Ytojcojoleodjmaa
