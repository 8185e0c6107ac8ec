/-
  shuttleref19: contract of Drop. Conditions: 1 to 16 workers, at most 1,024 threads in a queue.
-/
import Derived.Test.YtojcojoleodjmaaRfPush
import Derived.Deep.RegionHeld3
import Derived.Deep.DrawnRows
namespace Go.Proofs.Ytojcojoleodjmaa
open Go.RowKit Go.Sh
attribute [local go_sem ↓] Go.wp_at_zero Go.wp_at_succ

set_option maxRecDepth 100000 in
set_option maxHeartbeats 4000000 in
theorem rdrop28 (B : Nat) (w0 : World) (b br n : Nat) (ls : Nat → List Int) (st : Int) (L F : List (Nat × Obj)) (who : Int) (w : World) (hX : Rqx b br n ls st L) (hO : Own B w0 w (L ++ F)) :
    Calls Try.prog 28 #[.pointer (some ⟨b, 0, none⟩), .int .i64 who] w (RPushPost B w0 b br n F st (dropQ n ls who)) := by
  obtain ⟨i0, hinf, hz0, hz1, hz2⟩ := info_parts Try.info3
  have hX' := hX
  obtain ⟨vs, Ls, hQ, rfl⟩ := hX'
  obtain ⟨hc0, _, hck⟩ := r_cells hO
  have HCK := Lib.hid hck
  have HRD := Lib.hid (show ∀ k, k < 16 → Rd w I (vs k) (ls k) from fun k hk => r_rd hQ hO hk)
  have hpos := hQ.pos
  have htop := hQ.top
  have HLEN := Lib.hid hQ.len
  clear hck
  go_enter Try.func28, Try.ntmps28
  go_wp2
  go_loop [5] (fun i => ∃ k : Nat, k ≤ n ∧ i = .int .i64 k ∧ ∀ j, j < k → (ls j).contains who = false) (fun i => n - (intOf i).toNat)
  case atStart => exact ⟨0, Nat.zero_le _, rfl, fun _ h => by omega⟩
  case round =>
    obtain ⟨k, hi, rfl, hno⟩ := hrel
    have HN := Lib.hid hno
    clear hno
    by_cases hlt : k < n
    · have hcell := HCK.out k hlt
      have hlen := HLEN.out k (by omega)
      have hge := idx_ge (ls k) who
      rcases idx_cases (ls k) who with h1 | ⟨q, hq, h1⟩
      · have hcf : (ls k).contains who = false := by rw [← hge, h1]; rfl
        have H3 := Lib.hid h1
        have HC := Lib.hid hcf
        clear hge h1 hcf
        go_wp2_with (go_at_call 54; refine (at54 (ls k) who _ _ (by omega) (HRD.out k (by omega))).mono ?_; rintro e w' ⟨rfl, rfl⟩; rw [H3.out])
        go_round
        case rel => exact ⟨k + 1, by omega, by go_num, fun j hj => by
          rcases Nat.lt_succ_iff_lt_or_eq.1 hj with h' | rfl
          · exact HN.out j h'
          · exact HC.out⟩
        case measure => simp [intOf]; omega
      · have hcf : (ls k).contains who = true := by rw [← hge, h1]; simp
        have hk16 : k < 16 := by omega
        obtain ⟨zs, hz⟩ : ∃ zs, (ls k).take q ++ (ls k).drop (q + 1) = zs := ⟨_, rfl⟩
        have hzl : zs.length ≤ 1024 := by rw [← hz]; simp; omega
        have HR := Lib.hid (show dropQ n ls who = (0, upd ls k zs) by unfold dropQ; rw [findQ_at hlt hcf HN.out]; dsimp only; rw [h1, Int.toNat_natCast, hz])
        have HZ := Lib.hid hz
        have HL := Lib.hid (show q + ((ls k).length - (q + 1)) = zs.length by rw [← hz]; simp; omega)
        have H3 := Lib.hid h1
        have hs := hQ.sl k hk16
        have hOp := hO.perm (rown_open b br n vs Ls st F hk16)
        have HQ := Lib.hid hQ
        have HRDk := Lib.hid (HRD.out k hk16)
        clear hz hge h1 hcf hX hO hQ HCK HRD HLEN
        rcases hs with ⟨_, he, _⟩ | ⟨g, off, cap, cur, hv, hLk, hcap, hcm, hsz, hcur⟩
        · rw [he] at hq; simp at hq
        · have hs : Sl 3 1 I (.slice (some ⟨g, off, none⟩) (ls k).length cap) (ls k) (Ls k) := by rw [hLk]; exact .inr ⟨g, off, cap, cur, rfl, rfl, hcap, hcm, hsz, hcur⟩
          have ht := hs.take I_len q (by omega)
          obtain ⟨off', hoff, hd'⟩ := hs.dropIf I_len (q + 1) (by omega) (cap = q + 1) id
          rw [Nat.mul_one] at hoff
          have HT := Lib.hid ht
          have HD := Lib.hid hd'
          have HOFF := Lib.hid hoff
          rw [hv] at hcell
          have HV := Lib.hid hv
          clear hcm hsz hcur hs hoff ht hd' hv hLk
          have hi0 : (0 : Int) ≤ q := by omega
          have hi1 : (q : Int) + 1 ≤ (ls k).length := by omega
          have hic : q ≤ cap := by omega
          have hkn : (k : Int) < n := by omega
          go_wp2_with (go_at_call 54; refine (at54 (ls k) who _ _ (by omega) (by rw [← HV.out]; exact HRDk.out)).mono ?_; rintro e w' ⟨rfl, rfl⟩; rw [H3.out])
          have e1 : IntKind.i64.wrap ((q : Int) + 1) = (q : Int) + 1 := IntWalk.i64_in _ (by omega)
          have e2 : (0 : Int) ≤ (q : Int) + 1 := by omega
          have e3 : ((q : Int) + 1).toNat = q + 1 := by omega
          have hOd := hOp.drew
          clear hOp
          go_region_law (first
              | ((refine step_append_all (by rfl) (.const (.slice none 0 0)) (.tmp 40) 28 (by rfl) _ _ _ Try.underlying28 hinf hz0 hz1 hz2 rfl I_len I_one rfl (Sl.nil (e := 3) (k := 1) (enc := I)) (F := Ls k ++ ((b, rhead br n st) :: (br, robj n vs) :: (rest 16 k Ls ++ F))) hOd _ rfl ((ls k).take q) (Ls k) (by exact HT.out) (by intro p hp; exact List.mem_append_left _ hp) (by simp only [List.length_nil, List.length_take, maxLen]; omega) (by simp only [List.length_nil, List.length_take]; omega) q (by simp only [List.length_nil, List.length_take]; omega) ?_; intro ao1 cap1 w1 L1 hS1 hO1 hge1; rw [List.nil_append] at hS1; obtain ⟨k0, _, k2⟩ := r_cells (hO1.right.perm (rown_open b br n vs Ls st F hk16).symm); have k3 := k2 k hlt; rw [HV.out] at k3; have HS1 := Lib.hid hS1; have hltb := World.block_lt_of_cell? _ _ k0; have hltr := World.block_lt_of_cell? _ _ k3; clear hS1 k2))
              | ((refine step_append_all (by rfl) (.tmp 41) (.tmp 51) 28 (by rfl) _ _ _ Try.underlying28 hinf hz0 hz1 hz2 rfl I_len I_one rfl (by exact HS1.out) hO1 _ rfl ((ls k).drop (q + 1)) (Ls k) (by rw [HOFF.out]; exact HD.out) (by intro p hp; exact List.mem_append_left _ hp) (by simp only [List.length_drop, List.length_take, maxLen]; omega) (by simp only [List.length_drop, List.length_take]; omega) zs.length (by rw [← HL.out]; simp only [List.length_drop, List.length_take]; omega) ?_; intro ao2 cap2 w2 L2 hS2 hO2 hge2; rw [HZ.out] at hS2; have hO3 := (hO2.perm (List.perm_append_comm_assoc _ _ _)).right; have hrow : w2.heap[br]? = some (robj n vs) := hO3.get (br, robj n vs) (by simp); have k4 : w2.cell? ⟨br, k, none⟩ = some (.slice (some ⟨g, off, none⟩) (ls k).length cap) := (cell_of_get hrow k).trans ((rrow_k vs hlt).trans (congrArg some HV.out)); have k5 : w2.frozen? ⟨br, k, none⟩ = false := free_of_get hrow k; have k6 : w2.cell? ⟨b, 0, none⟩ = some (.slice (some ⟨br, 0, none⟩) n n) := cell_of_get (hO3.get (b, rhead br n st) (by simp)) 0; clear hrow)))
          all_goals
            have hO4 := r_put hO3 hk16 (.slice ao2 zs.length cap2)
            have hQ' := HQ.out.set (k := k) (v := .slice ao2 zs.length cap2) (xs := zs) hS2 hzl
            clear hOd hO1 hO2 hO3 k0 k3 k4 k5 k6 hS2
            try rw [HOFF.out]
            go_wp2
            go_ret
            rw [HR.out]
            exact ⟨rfl, _, ⟨_, _, hQ', rfl⟩, hO4⟩
    · obtain rfl : k = n := by omega
      have HR := Lib.hid (show dropQ k ls who = (6, ls) by unfold dropQ; rw [findQ_none HN.out])
      go_wp2
      go_ret
      rw [HR.out]
      exact ⟨rfl, _, hX, hO⟩

end Go.Proofs.Ytojcojoleodjmaa
