/-
  shuttleref19: contract of Next. Conditions: 1 to 16 workers, at most 1,024 threads in a queue.
-/
import Derived.Test.YtojcojoleodjmaaRfPush
import Derived.Deep.DrawnRows
import Derived.Deep.DeepCutAuto
namespace Go.Proofs.Ytojcojoleodjmaa
open Go.RowKit Go.Sh
attribute [local go_sem ↓] Go.wp_at_zero Go.wp_at_succ

def RNextPost (B : Nat) (w0 : World) (b br n : Nat) (F : List (Nat × Obj)) (r : Int × Int × (Nat → List Int) × Int) (e : Ending) (w' : World) : Prop :=
  e = .returned (.tuple #[.int .i64 r.1, .int .i64 r.2.1]) ∧ ∃ L', Rqx b br n r.2.2.1 r.2.2.2 L' ∧ Own B w0 w' (L' ++ F)

theorem r_put2 {B : Nat} {w0 w : World} {b br n : Nat} {vs : Nat → Value} {Ls : Nat → List (Nat × Obj)} {st : Int} {F L : List (Nat × Obj)} {k : Nat} (hO : Own B w0 w (L ++ (rown b br n vs Ls st ++ F))) (hk : k < 16) (v : Value) :
    Own B w0 (w.setCell ⟨br, k, none⟩ v) (rown b br n (upd vs k v) (upd Ls k L) st ++ F) :=
  r_put ((hO.perm ((rown_open b br n vs Ls st F hk).append_left L)).perm (List.perm_append_comm_assoc _ _ _)).right hk v

set_option maxRecDepth 100000 in
set_option maxHeartbeats 8000000 in
theorem rnext27 (B : Nat) (w0 : World) (b br n : Nat) (ls : Nat → List Int) (st : Int) (L F : List (Nat × Obj)) (worker : Int) (w : World) (hX : Rqx b br n ls st L) (hO : Own B w0 w (L ++ F)) :
    Calls Try.prog 27 #[.pointer (some ⟨b, 0, none⟩), .int .i64 worker] w (RNextPost B w0 b br n F (nextQ n ls st worker)) := by
  obtain ⟨i0, hinf, hz0, hz1, hz2⟩ := info_parts Try.info3
  have hX' := hX
  obtain ⟨vs, Ls, hQ, rfl⟩ := hX'
  obtain ⟨hc0, _, hck⟩ := r_cells hO
  have hpos := hQ.pos
  have htop := hQ.top
  rcases mayQ_cases n worker with h1 | ⟨h1, k, rfl, hk⟩
  · have HR := Lib.hid (show nextQ n ls st worker = (0, 1, ls, st) by simp [nextQ, h1])
    unfold mayQ at h1
    clear hck
    by_cases h2 : worker < 0
    · clear h1
      go_enter Try.func27, Try.ntmps27
      go_wp2
      refine bodyPost_ret (v := .tuple #[.int .i64 0, .int .i64 1]) (by simp [results, Try.results27, go_sem]) rfl ?_
      rw [HR.out]
      exact ⟨rfl, _, hX, hO⟩
    · have h3 : (n : Int) ≤ worker := by
        rcases Int.lt_or_le worker n with h | h
        · rw [if_neg (by omega)] at h1; cases h1
        · exact h
      clear h1
      go_enter Try.func27, Try.ntmps27
      go_wp2
      refine bodyPost_ret (v := .tuple #[.int .i64 0, .int .i64 1]) (by simp [results, Try.results27, go_sem]) rfl ?_
      rw [HR.out]
      exact ⟨rfl, _, hX, hO⟩
  · have hk1 : decide (n ≤ k) = false := by simp; omega
    have hk2 : ¬ (n : Int) ≤ k := by omega
    have hk3 : ¬ (k : Int) < 0 := by omega
    have hkn : (k : Int) < n := by omega
    have hk16 : k < 16 := by omega
    have hs := hQ.sl k hk16
    obtain ⟨ao, cap, hv, _, _⟩ := hs.form
    have hcell : w.cell? ⟨br, k, none⟩ = some (.slice ao (ls k).length cap) := by rw [hck k hk, hv]
    have HCK := Lib.hid hck
    clear hck
    cases hl : ls k with
    | nil =>
      have hz : (((ls k).length : Int) == 0) = true := by simp [hl]
      cases hvic : victimQ n ls k with
      | none =>
        have HR := Lib.hid (show nextQ n ls st k = (0, 6, ls, st) by unfold nextQ; rw [if_neg (by omega), Int.toNat_natCast, if_pos hl]; unfold stealQ; rw [hvic])
        have HV := Lib.hid hvic
        clear h1 hl hv hs hvic
        go_enter Try.func27, Try.ntmps27
        go_wp2_with (go_at_call 55; refine (rich55 B w0 b br n vs Ls ls st F k _ hk hQ hO).mono ?_; rintro e w' ⟨rfl, q, rfl⟩; rw [HV.out]; unfold encB; dsimp only)
        refine bodyPost_ret (v := .tuple #[.int .i64 0, .int .i64 6]) (by simp [results, Try.results27, go_sem]) rfl ?_
        rw [HR.out]
        exact ⟨rfl, _, hX, hO.drewN q⟩
      | some v =>
        obtain ⟨hvn, hvl, hvk⟩ := victimQ_some hk hvic
        have hlv := hQ.len v (by omega)
        obtain ⟨m, hm⟩ : ∃ m, m = (ls v).length / 2 := ⟨_, rfl⟩
        obtain ⟨mm, hmm⟩ : ∃ mm, mm = (ls v).length - m := ⟨_, rfl⟩
        have hml : m < (ls v).length := by omega
        obtain ⟨x, r, hxr⟩ : ∃ x r, (ls v).drop m = x :: r := List.exists_cons_of_ne_nil (by
          intro h
          have := congrArg List.length h
          simp at this
          omega)
        obtain ⟨ls', hls'⟩ : ∃ l, l = upd (upd ls k ((ls v).drop m)) v ((ls v).take m) := ⟨_, rfl⟩
        have H4 := Lib.hid (show ls' k = x :: r by rw [hls', upd_other (Ne.symm hvk), upd_same, hxr])
        have HR := Lib.hid (show nextQ n ls st k = (x, 0, upd ls' k r, IntKind.i64.wrap (st + (mm : Nat))) by
          unfold nextQ; rw [if_neg (by omega), Int.toNat_natCast, if_pos hl]; unfold stealQ; rw [hvic]; dsimp only; rw [← hm, ← hls', ← hmm]; unfold popQ; rw [H4.out])
        have HV := Lib.hid hvic
        have hdiv : (((ls v).length : Int) + 1) / 2 = (mm : Int) := by omega
        have hsub : ((ls v).length : Int) - (mm : Int) = (m : Int) := by omega
        have hmi : (m : Int) ≤ (ls v).length := by omega
        have hsv := hQ.sl v (by omega)
        obtain ⟨g, off, cap, hvv⟩ : ∃ g off cap1, vs v = .slice (some ⟨g, off, none⟩) (ls v).length cap1 := by
          rcases hsv with ⟨_, he, _⟩ | ⟨g, off, cap1, cur, hvv, _⟩
          · rw [he] at hvl; simp at hvl
          · exact ⟨g, off, cap1, hvv⟩
        have hcv : w.cell? ⟨br, v, none⟩ = some (.slice (some ⟨g, off, none⟩) (ls v).length cap) := by rw [HCK.out v hvn, hvv]
        have hcap : (ls v).length ≤ cap := by
          obtain ⟨_, _, e, h, _⟩ := hsv.form
          rw [hvv] at e
          simp only [Value.slice.injEq] at e
          obtain ⟨_, _, rfl⟩ := e
          exact h
        have hsv' : Sl 3 1 I (.slice (some ⟨g, off, none⟩) (ls v).length cap) (ls v) (Ls v) := hvv ▸ hsv
        have HT := Lib.hid (hsv'.take I_len m (by omega))
        have hd := hsv'.drop I_len m (by omega)
        rw [Nat.mul_one] at hd
        have HDr := Lib.hid hd
        have hcapm : ¬ cap = m := by omega
        have hcapm2 : m ≤ cap := by omega
        have hvi : (v : Int) < n := by omega
        have hvi3 : ¬ (v : Int) < 0 := by omega
        have HVV := Lib.hid hvv
        have HQ := Lib.hid hQ
        have HMM := Lib.hid hmm
        have HLS := Lib.hid hls'
        clear h1 hl hv hs hvic hm hxr hls' hsv hsv' hd hvv hX hQ hmm
        go_enter Try.func27, Try.ntmps27
        go_wp2_with (go_at_call 55; refine (rich55 B w0 b br n vs Ls ls st F k _ hk HQ.out hO).mono ?_; rintro e w' ⟨rfl, q, rfl⟩; rw [HV.out]; unfold encB; dsimp only)
        have hO := hO.drewN q
        generalize hwq : w.drewN q = wq at hO ⊢
        clear hwq hc0 hcell hcv HCK
        go_upto_region 9 with fail
        go_cut [6] (fun s6 wx => s6 = .int .i64 v ∧ ∃ L1, Rqx b br n (upd ls k ((ls v).drop m)) st L1 ∧ Own B w0 wx (L1 ++ F))
        case first =>
          have hOd : Own B w0 wq.drew ([] ++ (rown b br n vs Ls st ++ F)) := hO.drew
          obtain ⟨hc0, _, cK⟩ := r_cells hO
          have hcv : wq.cell? ⟨br, v, none⟩ = some (.slice (some ⟨g, off, none⟩) (ls v).length cap) := by rw [cK v hvn, HVV.out]
          have hltb0 := World.block_lt_of_cell? _ _ hc0
          have hltr0 := World.block_lt_of_cell? _ _ hcv
          have hw1 : IntKind.i64.wrap (((ls v).length : Int) - (mm : Int)) = (m : Int) := by rw [show ((ls v).length : Int) - (mm : Int) = (m : Int) by have := HMM.out; omega]; exact IntWalk.i64_in _ (by omega)
          have hm0 : (0 : Int) ≤ (m : Int) := by omega
          clear hO cK hsub
          go_region_law (refine step_append_all rfl (.const (.slice none 0 0)) (.tmp 61) 28 rfl _ _ _ Try.underlying28 hinf hz0 hz1 hz2 rfl I_len I_one rfl (Sl.nil (e := 3) (k := 1) (enc := I)) (F := rown b br n vs Ls st ++ F) hOd _ rfl ((ls v).drop m) (Ls v) (by exact HDr.out) (fun p hp => List.mem_append_left _ (List.mem_cons_of_mem _ (List.mem_cons_of_mem _ (mem_fam (by omega) hp)))) (by have := HMM.out; simp only [List.length_nil, List.length_drop, maxLen]; omega) (by have := HMM.out; simp only [List.length_nil, List.length_drop]; omega) (mm) (by have := HMM.out; simp only [List.length_nil, List.length_drop]; omega) ?_; intro ao1 cap9 w1 L1 hS1 hO1 hge1; rw [List.nil_append] at hS1; obtain ⟨k0, _, k2⟩ := r_cells hO1.right; have k3 := k2 k hk; have k4 := k2 v hvn; rw [HVV.out] at k4; have hltr := World.block_lt_of_cell? _ _ k4; have k5 : w1.frozen? ⟨br, k, none⟩ = false := free_of_get (r_row hO1.right) k; have hltb := World.block_lt_of_cell? _ _ k0; clear k2)
          all_goals
            have hO4 := r_put2 hO1 hk16 (.slice ao1 mm cap9)
            have hQ1 := HQ.out.set (k := k) (v := .slice ao1 mm cap9) (xs := (ls v).drop m) hS1 (by simp; omega)
            clear hO1 k0 k3 k4 k5 hS1 hOd hcv hc0 hw1 hm0
            go_wp2_with fail
            go_meet
            exact ⟨rfl, _, ⟨_, _, hQ1, rfl⟩, hO4⟩
        case rest =>
          obtain ⟨rfl, L1, ⟨vs1, Ls1, hQ1, rfl⟩, hO⟩ := hcut
          have hls1 : (upd ls k ((ls v).drop m)) v = ls v := upd_other hvk
          have hsv := hQ1.sl v (by omega)
          rw [hls1] at hsv
          obtain ⟨g1, off1, cap1, hvv⟩ : ∃ g off cap1, vs1 v = .slice (some ⟨g, off, none⟩) (ls v).length cap1 := by
            rcases hsv with ⟨_, he, _⟩ | ⟨g, off, cap1, cur, hvv, _⟩
            · rw [he] at hvl; simp at hvl
            · exact ⟨g, off, cap1, hvv⟩
          have hcap1 : (ls v).length ≤ cap1 := by
            obtain ⟨_, _, e, h, _⟩ := hsv.form
            rw [hvv] at e
            simp only [Value.slice.injEq] at e
            obtain ⟨_, _, rfl⟩ := e
            exact h
          have hm1 : m ≤ cap1 := by omega
          have hsv' : Sl 3 1 I (.slice (some ⟨g1, off1, none⟩) (ls v).length cap1) (ls v) (Ls1 v) := hvv ▸ hsv
          have HT1 := Lib.hid (hsv'.take I_len m (by omega))
          have HV1 := Lib.hid hvv
          have HQ1 := Lib.hid hQ1
          clear hls1 hsv hvv hsv' hQ1 hsub
          go_upto_region 10 with fail
          go_cut [6] (fun s6 wx => s6 = .int .i64 v ∧ ∃ L1, Rqx b br n ls' st L1 ∧ Own B w0 wx (L1 ++ F))
          case first =>
            have hOd : Own B w0 wc.drew ([] ++ (rown b br n vs1 Ls1 st ++ F)) := hO.drew
            obtain ⟨hc0, _, cK⟩ := r_cells hO
            have hcv : wc.cell? ⟨br, v, none⟩ = some (.slice (some ⟨g1, off1, none⟩) (ls v).length cap1) := by rw [cK v hvn, HV1.out]
            have hltb0 := World.block_lt_of_cell? _ _ hc0
            have hltr0 := World.block_lt_of_cell? _ _ hcv
            have hw1 : IntKind.i64.wrap (((ls v).length : Int) - (mm : Int)) = (m : Int) := by rw [show ((ls v).length : Int) - (mm : Int) = (m : Int) by have := HMM.out; omega]; exact IntWalk.i64_in _ (by omega)
            have hm0 : (0 : Int) ≤ (m : Int) := by omega
            clear hO cK
            go_region_law (refine step_append_all rfl (.const (.slice none 0 0)) (.tmp 79) 28 rfl _ _ _ Try.underlying28 hinf hz0 hz1 hz2 rfl I_len I_one rfl (Sl.nil (e := 3) (k := 1) (enc := I)) (F := rown b br n vs1 Ls1 st ++ F) hOd _ rfl ((ls v).take m) (Ls1 v) (by exact HT1.out) (fun p hp => List.mem_append_left _ (List.mem_cons_of_mem _ (List.mem_cons_of_mem _ (mem_fam (by omega) hp)))) (by simp only [List.length_nil, List.length_take, maxLen]; omega) (by simp only [List.length_nil, List.length_take]; omega) (m) (by simp only [List.length_nil, List.length_take]; omega) ?_; intro ao1 cap9 w1 L1 hS1 hO1 hge1; rw [List.nil_append] at hS1; obtain ⟨k0, _, k2⟩ := r_cells hO1.right; have k3 := k2 v hvn; rw [HV1.out] at k3; have hltr := World.block_lt_of_cell? _ _ k3; have k5 : w1.frozen? ⟨br, v, none⟩ = false := free_of_get (r_row hO1.right) v; have hltb := World.block_lt_of_cell? _ _ k0; clear k2)
            all_goals
              have hO4 := r_put2 hO1 (show v < 16 by omega) (.slice ao1 m cap9)
              have hQ1 := HQ1.out.set (k := v) (v := .slice ao1 m cap9) (xs := (ls v).take m) hS1 (by simp; omega)
              rw [← HLS.out] at hQ1
              clear hO1 k0 k3 k5 hS1 hOd hcv hc0 hw1 hm0
              go_wp2_with fail
              go_meet
              exact ⟨rfl, _, ⟨_, _, hQ1, rfl⟩, hO4⟩
          case rest =>
            obtain ⟨rfl, L1, ⟨vs2, Ls2, hQ2, rfl⟩, hO⟩ := hcut
            obtain ⟨c0, c1, _⟩ := r_cells hO
            have f1 : wc.frozen? ⟨b, 1, none⟩ = false := free_of_get (r_get hO) 1
            have hO7 := r_st hO (wrap64 (st + (mm : Int)))
            have HO7 := Lib.hid hO7
            have HQ2 := Lib.hid hQ2
            obtain ⟨st2, hst2⟩ : ∃ s, s = wrap64 (st + (mm : Int)) := ⟨_, rfl⟩
            rw [show IntKind.i64.wrap (st + (mm : Int)) = wrap64 (st + (mm : Int)) by rw [IntKind.wrap_i64]; simp only [wrap64]] at HR
            have HST := Lib.hid hst2
            clear hO7 hO hQ2 hdiv hmi hcapm2 hcapm hst2
            go_upto_region 12 with fail
            generalize hw7 : wc.setCell ⟨b, 1, none⟩ (.int .i64 (wrap64 (st + (mm : Int)))) = w7 at HO7 ⊢
            have hO := HO7.out
            have hQ := HQ2.out
            rw [← HST.out] at hO HR
            clear hw7 c0 c1 f1 HO7 HQ2 HST
            have hs1 := hQ.sl k hk16
            have hl1 := hQ.len k hk16
            obtain ⟨g, off, cap1, hv1⟩ : ∃ g off cap1, vs2 k = .slice (some ⟨g, off, none⟩) (ls' k).length cap1 := by
              rcases hs1 with ⟨_, he, _⟩ | ⟨g, off, cap1, cur, hvv, _⟩
              · rw [H4.out] at he; cases he
              · exact ⟨g, off, cap1, hvv⟩
            have hrl : r.length = (ls' k).length - 1 := by rw [H4.out]; simp
            have hlen : 0 < (ls' k).length := by rw [H4.out]; simp
            have hleni : (0 : Int) < (ls' k).length := by omega
            have hlen1 : (1 : Int) ≤ (ls' k).length := by omega
            obtain ⟨c0, _, cK⟩ := r_cells hO
            have hc1 : w7.cell? ⟨br, k, none⟩ = some (.slice (some ⟨g, off, none⟩) (ls' k).length cap1) := by rw [cK k hk, hv1]
            have hx1 : w7.cell? ⟨g, off, none⟩ = some (.int .i64 x) := by
              have h := Sl.cells (hv1 ▸ hs1) (hO.perm (rown_open b br n vs2 Ls2 st2 F hk16)) rfl 0 (.int .i64 x) (by rw [flatI, H4.out]; rfl)
              simpa [Addr.add] using h
            obtain ⟨off', hoff, hd'⟩ := (hv1 ▸ hs1 : Sl 3 1 I (.slice (some ⟨g, off, none⟩) (ls' k).length cap1) (ls' k) (Ls2 k)).dropIf I_len 1 (by omega) (cap1 = 1) id
            rw [Nat.mul_one] at hoff
            rw [show (ls' k).drop 1 = r by rw [H4.out]; rfl] at hd'
            have hcapi : (1 : Int) ≤ cap1 := by
              obtain ⟨_, _, e, h, _⟩ := hs1.form
              rw [hv1] at e
              simp only [Value.slice.injEq] at e
              obtain ⟨_, _, rfl⟩ := e
              omega
            have HOFF := Lib.hid hoff
            have HD := Lib.hid hd'
            have HV1 := Lib.hid hv1
            have HQ' := Lib.hid hQ
            have HRL := Lib.hid hrl
            have HOd : Hid (Own B w0 w7.drew ([] ++ (rown b br n vs2 Ls2 st2 ++ F))) := Lib.hid hO.drew
            have hltb0 := World.block_lt_of_cell? _ _ c0
            have hltr0 := World.block_lt_of_cell? _ _ hc1
            clear hs1 hoff hd' hv1 cK hrl hO
            go_wp2_with fail
            have hOd := HOd.out
            go_region_law (refine step_append_all rfl (.const (.slice none 0 0)) (.tmp 111) 28 rfl _ _ _ Try.underlying28 hinf hz0 hz1 hz2 rfl I_len I_one rfl (Sl.nil (e := 3) (k := 1) (enc := I)) (F := rown b br n vs2 Ls2 st2 ++ F) hOd _ rfl (r) (Ls2 k) (by rw [HOFF.out]; exact HD.out) (fun p hp => List.mem_append_left _ (List.mem_cons_of_mem _ (List.mem_cons_of_mem _ (mem_fam (by omega) hp)))) (by have := HRL.out; simp only [List.length_nil, maxLen]; omega) (by have := HRL.out; simp only [List.length_nil]; omega) (r.length) (by have := HRL.out; simp only [List.length_nil]; omega) ?_; intro ao1 cap9 w8 L1 hS1 hO1 hge1; rw [List.nil_append] at hS1; obtain ⟨k0, _, k2⟩ := r_cells hO1.right; have k3 := k2 k hk; rw [HV1.out] at k3; have hltr := World.block_lt_of_cell? _ _ k3; have k5 : w8.frozen? ⟨br, k, none⟩ = false := free_of_get (r_row hO1.right) k; have hltb := World.block_lt_of_cell? _ _ k0; clear k2)
            all_goals
              have hO5 := r_put2 hO1 hk16 (.slice ao1 r.length cap9)
              have hQ2 := HQ'.out.set (k := k) (v := .slice ao1 r.length cap9) (xs := r) hS1 (by have := HRL.out; omega)
              clear hO1 k0 k3 k5 hS1 hOd c0 hc1 hx1
              try rw [HOFF.out]
              go_wp2
              refine bodyPost_ret (v := .tuple #[.int .i64 x, .int .i64 0]) (by simp [results, Try.results27, go_sem]) rfl ?_
              rw [HR.out]
              exact ⟨rfl, _, ⟨_, _, hQ2, rfl⟩, hO5⟩
    | cons x r =>
      have hz : (((ls k).length : Int) == 0) = false := by rw [hl]; simp; omega
      have HR := Lib.hid (show nextQ n ls st k = (x, 0, upd ls k r, st) by unfold nextQ; rw [if_neg (by omega), Int.toNat_natCast, if_neg (by rw [hl]; simp)]; unfold popQ; rw [hl])
      have H4 := Lib.hid hl
      clear h1 hl hv hs hX hcell
      go_enter Try.func27, Try.ntmps27
      have hs1 := hQ.sl k hk16
      have hl1 := hQ.len k hk16
      obtain ⟨g, off, cap1, hv1⟩ : ∃ g off cap1, vs k = .slice (some ⟨g, off, none⟩) (ls k).length cap1 := by
        rcases hs1 with ⟨_, he, _⟩ | ⟨g, off, cap1, cur, hvv, _⟩
        · rw [H4.out] at he; cases he
        · exact ⟨g, off, cap1, hvv⟩
      have hrl : r.length = (ls k).length - 1 := by rw [H4.out]; simp
      have hlen : 0 < (ls k).length := by rw [H4.out]; simp
      have hleni : (0 : Int) < (ls k).length := by omega
      have hlen1 : (1 : Int) ≤ (ls k).length := by omega
      obtain ⟨c0, _, cK⟩ := r_cells hO
      have hc1 : w.cell? ⟨br, k, none⟩ = some (.slice (some ⟨g, off, none⟩) (ls k).length cap1) := by rw [cK k hk, hv1]
      have hx1 : w.cell? ⟨g, off, none⟩ = some (.int .i64 x) := by
        have h := Sl.cells (hv1 ▸ hs1) (hO.perm (rown_open b br n vs Ls st F hk16)) rfl 0 (.int .i64 x) (by rw [flatI, H4.out]; rfl)
        simpa [Addr.add] using h
      obtain ⟨off', hoff, hd'⟩ := (hv1 ▸ hs1 : Sl 3 1 I (.slice (some ⟨g, off, none⟩) (ls k).length cap1) (ls k) (Ls k)).dropIf I_len 1 (by omega) (cap1 = 1) id
      rw [Nat.mul_one] at hoff
      rw [show (ls k).drop 1 = r by rw [H4.out]; rfl] at hd'
      have hcapi : (1 : Int) ≤ cap1 := by
        obtain ⟨_, _, e, h, _⟩ := hs1.form
        rw [hv1] at e
        simp only [Value.slice.injEq] at e
        obtain ⟨_, _, rfl⟩ := e
        omega
      have HOFF := Lib.hid hoff
      have HD := Lib.hid hd'
      have HV1 := Lib.hid hv1
      have HQ' := Lib.hid hQ
      have HRL := Lib.hid hrl
      have HOd : Hid (Own B w0 w.drew ([] ++ (rown b br n vs Ls st ++ F))) := Lib.hid hO.drew
      have hltb0 := World.block_lt_of_cell? _ _ c0
      have hltr0 := World.block_lt_of_cell? _ _ hc1
      clear hs1 hoff hd' hv1 cK hrl hO
      go_wp2_with fail
      have hOd := HOd.out
      go_region_law (refine step_append_all rfl (.const (.slice none 0 0)) (.tmp 111) 28 rfl _ _ _ Try.underlying28 hinf hz0 hz1 hz2 rfl I_len I_one rfl (Sl.nil (e := 3) (k := 1) (enc := I)) (F := rown b br n vs Ls st ++ F) hOd _ rfl (r) (Ls k) (by rw [HOFF.out]; exact HD.out) (fun p hp => List.mem_append_left _ (List.mem_cons_of_mem _ (List.mem_cons_of_mem _ (mem_fam (by omega) hp)))) (by have := HRL.out; simp only [List.length_nil, maxLen]; omega) (by have := HRL.out; simp only [List.length_nil]; omega) (r.length) (by have := HRL.out; simp only [List.length_nil]; omega) ?_; intro ao1 cap9 w8 L1 hS1 hO1 hge1; rw [List.nil_append] at hS1; obtain ⟨k0, _, k2⟩ := r_cells hO1.right; have k3 := k2 k hk; rw [HV1.out] at k3; have hltr := World.block_lt_of_cell? _ _ k3; have k5 : w8.frozen? ⟨br, k, none⟩ = false := free_of_get (r_row hO1.right) k; have hltb := World.block_lt_of_cell? _ _ k0; clear k2)
      all_goals
        have hO5 := r_put2 hO1 hk16 (.slice ao1 r.length cap9)
        have hQ2 := HQ'.out.set (k := k) (v := .slice ao1 r.length cap9) (xs := r) hS1 (by have := HRL.out; omega)
        clear hO1 k0 k3 k5 hS1 hOd c0 hc1 hx1
        try rw [HOFF.out]
        go_wp2
        refine bodyPost_ret (v := .tuple #[.int .i64 x, .int .i64 0]) (by simp [results, Try.results27, go_sem]) rfl ?_
        rw [HR.out]
        exact ⟨rfl, _, ⟨_, _, hQ2, rfl⟩, hO5⟩

end Go.Proofs.Ytojcojoleodjmaa

