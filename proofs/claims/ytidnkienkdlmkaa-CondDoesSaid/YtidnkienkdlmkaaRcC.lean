/-
  The document's condition: contract of Wait. Conditions: few waiters; who waits for a mutex is a thread.
-/
import Derived.Test.YtidnkienkdlmkaaRcB
namespace Go.Proofs.Ytidnkienkdlmkaa
open Go.RowKit Go.Sh

def RKOutPost (B : Nat) (w0 : World) (bc b0 b1 : Nat) (F : List (Nat × Obj)) (r : KR) (e : Ending) (w' : World) : Prop :=
  ∃ wk Lk L', e = .returned (.tuple #[outV r.done 0 0 r.fault wk, .int .i64 r.err]) ∧ Sl 38 4 W4 wk r.wakes Lk ∧ Kr bc b0 b1 r.st L' ∧ Own B w0 w' (L' ++ (Lk ++ F))

theorem rkout_mk {B : Nat} {w0 : World} {bc b0 b1 : Nat} {F L' Lk : List (Nat × Obj)} {r r' : KR} {e : Ending} {w' : World} (wk : Value) (HR : Hid (r = r')) (he : e = .returned (.tuple #[outV r'.done 0 0 r'.fault wk, .int .i64 r'.err]))
    (hk : Sl 38 4 W4 wk r'.wakes Lk) (hM : Kr bc b0 b1 r'.st L') (hO : Own B w0 w' (L' ++ (Lk ++ F))) : RKOutPost B w0 bc b0 b1 F r e w' := by
  rw [HR.out]
  exact ⟨wk, Lk, L', he, hk, hM, hO⟩

theorem waitK_bad {s : KS} {who : Int} {m : Bool} (h : badQ s who m = true) : waitK s who m = ⟨false, 0, [], 1, s⟩ := by simp [waitK, h]

theorem badQ_thr {s : KS} {who : Int} {m : Bool} (h : thrB who = false) : badQ s who m = true := by
  unfold thrB at h
  unfold badQ
  by_cases h1 : who < 0
  · simp [h1]
  · have h2 : 65536 ≤ who := by
      rw [decide_eq_true (show 0 ≤ who by omega)] at h
      simp at h
      exact h
    simp [h2]

theorem badQ_q {s : KS} {who : Int} {m : Bool} (h : inQ s.q who = true) : badQ s who m = true := by simp [badQ, h]
theorem badQ_ws {s : KS} {who : Int} {m : Bool} {k : Nat} (hk : k < (s.ws m).length) (h : (s.ws m)[k] = who) : badQ s who m = true := by
  have : (s.ws m).contains who = true := by rw [List.contains_iff_mem, ← h]; exact List.getElem_mem hk
  unfold badQ
  rw [this]
  simp

theorem badQ_no {s : KS} {who : Int} {m : Bool} (h1 : thrB who = true) (h2 : inQ s.q who = false) (h3 : ∀ j (hj : j < (s.ws m).length), (s.ws m)[j] ≠ who) : badQ s who m = false := by
  have h4 : (s.ws m).contains who = false := by
    cases hc : (s.ws m).contains who with
    | false => rfl
    | true =>
      rw [List.contains_iff_mem] at hc
      obtain ⟨j, hj, he⟩ := List.getElem_of_mem hc
      exact absurd he (h3 j hj)
  unfold thrB at h1
  simp only [Bool.and_eq_true, decide_eq_true_eq] at h1
  unfold badQ
  rw [h2, h4]
  simp
  omega

theorem rd_i {w : World} {v : Value} {xs : List Int} (h : Rd w I v xs) : ∃ ao cap, v = .slice ao xs.length cap ∧ ∀ i (hi : i < xs.length), ∃ g off, ao = some ⟨g, off, none⟩ ∧ g < w.heap.size ∧ w.cell? ⟨g, off + i, none⟩ = some (.int .i64 xs[i]) := by
  rcases h with ⟨rfl, ao, cap, rfl⟩ | ⟨g, off, cap, rfl, hc⟩
  · exact ⟨ao, cap, rfl, fun i hi => by simp at hi⟩
  · refine ⟨_, cap, rfl, fun i hi => ?_⟩
    have h0 := hc i (.int .i64 xs[i]) (by rw [flatI]; simp [List.getElem?_eq_getElem hi])
    exact ⟨g, off, rfl, World.block_lt_of_cell? _ _ h0, h0⟩

abbrev wobj134 (x : WC) : Obj := Obj.cells #[.int .i64 x.who, .pointer (some ⟨x.m, 0, none⟩)] 134 (0, 0)

set_option maxRecDepth 100000 in
set_option maxHeartbeats 4000000 in
theorem rwait76 (B : Nat) (w0 : World) (bc b0 b1 : Nat) (s : KS) (L F : List (Nat × Obj)) (who : Int) (m : Bool) (w : World) (hK : Kr bc b0 b1 s L) (hO : Own B w0 w (L ++ F)) :
    Calls Try.prog 76 #[.pointer (some ⟨bc, 0, none⟩), .int .i64 who, .pointer (some ⟨mb b0 b1 m, 0, none⟩)] w (RKOutPost B w0 bc b0 b1 F (waitK s who m)) := by
  obtain ⟨i0, hi, hz0, hz1, hz2⟩ := info_parts Try.info134
  have hlq := hK.lenq
  have hwl := hK.wsLen m
  have HZ := Lib.hid (hO.allocAt kZ (n := w.heap.size) rfl)
  clear hO
  cases ht : thrB who with
  | false =>
    have HR := Lib.hid (waitK_bad (s := s) (who := who) (m := m) (badQ_thr ht))
    have HT := Lib.hid ht
    clear ht
    go_enter Try.func76, Try.ntmps76
    go_wp2_with (go_at_call 108; refine (thread108 who _).mono ?_; rintro e w' ⟨rfl, rfl⟩; rw [HT.out])
    exact bodyPost_ret (v := .tuple #[outV false 0 0 0 (.slice none 0 0), .int .i64 1]) (by simp [results, Try.results76, go_sem]) rfl (rkout_mk (Lk := []) _ HR rfl Sl.nil hK HZ.out.tail)
  | true =>
    have HT := Lib.hid ht
    clear ht
    go_enter Try.func76, Try.ntmps76
    go_upto_region 1 with fail
    obtain ⟨Z, hZe⟩ : ∃ Z, w.heap.size = Z := ⟨_, rfl⟩
    rw [hZe] at HZ ⊢
    generalize w.alloc (.cells #[.bool false, .int .i64 0, .int .i64 0, .int .i64 0, .slice none 0 0] 33) = W at HZ ⊢
    clear hZe
    obtain ⟨a, c, c0, hlt⟩ := hK.cells HZ.out (fun p hp => by simp [hp])
    obtain ⟨v, hv, hrd⟩ := hK.rd HZ.out (fun p hp => by simp [hp])
    rw [c0] at hv
    obtain rfl : Value.slice a s.q.length c = v := by simpa using hv
    obtain ⟨ao, cap, he, hr⟩ := rd_cw hrd
    obtain ⟨Lm, ⟨⟨vm, Lv, rfl, hn, hsm, hlm⟩, hpos⟩, hLm⟩ := hK.mem m
    have hmb := HZ.out.get (mb b0 b1 m, Obj.cells #[.int .i64 (hasV (s.own m)), vm] 87 (0, 0)) (by simp [hLm _ List.mem_cons_self])
    have m0 : W.cell? ⟨mb b0 b1 m, 0, none⟩ = some (.int .i64 (hasV (s.own m))) := cell_of_get hmb 0
    have m1 : W.cell? ⟨mb b0 b1 m, 1, none⟩ = some vm := cell_of_get hmb 1
    obtain ⟨am, cm, rfl, hrm⟩ := rd_i (Sl_rd (w := W) hsm (fun p hp => HZ.out.get p (by simp [hLm p (List.mem_cons_of_mem _ hp)])))
    have hel : (encQ b0 b1 s.q).length = s.q.length := by simp [encQ]
    have HR := Lib.hid (show ∀ i (hi : i < s.q.length), ∃ g off, a = some ⟨g, off, none⟩ ∧ W.cell? ⟨g, off + i * 2, none⟩ = some (.int .i64 s.q[i].1) by
      intro i hi
      obtain ⟨g, off, h1, h2, h3, _⟩ := hr i (by rw [hel]; exact hi)
      simp only [Value.slice.injEq] at he
      refine ⟨g, off, he.1.trans h1, ?_⟩
      rw [h3]; simp [encQ])
    have HRM := Lib.hid hrm
    have HN := Lib.hid hn
    have HPOS := Lib.hid hpos
    obtain ⟨z0, z1, z2, z3, z4⟩ := z5 HZ.out.head
    have zf := free_of_get HZ.out.head
    have zl := lt_of_get HZ.out.head
    have hO1 := out5 HZ.out (.bool false) (.int .i64 0) (.int .i64 0) (.int .i64 0) (.slice none 0 0)
    have HRR := Lib.hid (z5 hO1.head)
    have HO1 := Lib.hid hO1
    clear hr hrd he hv hsm hrm hn hpos hmb hel hO1 hLm
    go_wp2_with (go_at_call 108; refine (thread108 who _).mono ?_; rintro e w' ⟨rfl, rfl⟩; rw [HT.out])
    go_loop [8] (fun i => ∃ k : Nat, k ≤ s.q.length ∧ i = .int .i64 k ∧ Hid (∀ j (hj : j < s.q.length), j < k → s.q[j].1 ≠ who)) (fun i => s.q.length - (intOf i).toNat)
    case atStart => exact ⟨0, Nat.zero_le _, rfl, Lib.hid fun _ _ h => by omega⟩
    case round =>
      obtain ⟨k, hk, rfl, HNQ⟩ := hrel
      by_cases hltk : k < s.q.length
      · obtain ⟨g, off, rfl, e0⟩ := HR.out k hltk
        have hki : (k : Int) < s.q.length := by omega
        by_cases hq : s.q[k].1 = who
        · have HW := Lib.hid (waitK_bad (s := s) (who := who) (m := m) (badQ_q (inQ_hit hltk hq)))
          have hqb : (s.q[k].1 == who) = true := by simpa using hq
          clear hq
          go_wp2
          obtain ⟨r0, r1, r2, r3, r4⟩ := HRR.out
          exact bodyPost_ret (v := .tuple #[outV false 0 0 0 (.slice none 0 0), .int .i64 1]) (by simp [results, Try.results76, go_sem, r0, r1, r2, r3, r4]) rfl (rkout_mk (Lk := []) _ HW rfl Sl.nil hK HO1.out.tail)
        · have hqb : (s.q[k].1 == who) = false := by simpa using hq
          have HQ := Lib.hid hq
          clear hq
          go_wp2
          exact ⟨⟨k + 1, by omega, by go_num, Lib.hid fun j hj hjk => by
            rcases Nat.lt_succ_iff_lt_or_eq.1 hjk with h' | rfl
            · exact HNQ.out j hj h'
            · exact HQ.out⟩, by simp [intOf]; omega⟩
      · obtain rfl : k = s.q.length := by omega
        have HIN := Lib.hid (inQ_none (fun j hj => HNQ.out j hj hj))
        clear HNQ HR
        go_wp2
        go_loop [9] (fun i => ∃ k : Nat, k ≤ (s.ws m).length ∧ i = .int .i64 k ∧ Hid (∀ j (hj : j < (s.ws m).length), j < k → (s.ws m)[j] ≠ who)) (fun i => (s.ws m).length - (intOf i).toNat)
        case atStart => exact ⟨0, Nat.zero_le _, rfl, Lib.hid fun _ _ h => by omega⟩
        case round =>
          obtain ⟨k, hk, rfl, HNQ⟩ := hrel
          by_cases hltk : k < (s.ws m).length
          · obtain ⟨g, off, rfl, hgl, e0⟩ := HRM.out k hltk
            have hki : (k : Int) < (s.ws m).length := by omega
            by_cases hq : (s.ws m)[k] = who
            · have HW := Lib.hid (waitK_bad (s := s) (who := who) (m := m) (badQ_ws hltk hq))
              have hqb : ((s.ws m)[k] == who) = true := by simpa using hq
              clear hq
              go_wp2
              obtain ⟨r0, r1, r2, r3, r4⟩ := HRR.out
              exact bodyPost_ret (v := .tuple #[outV false 0 0 0 (.slice none 0 0), .int .i64 1]) (by simp [results, Try.results76, go_sem, r0, r1, r2, r3, r4]) rfl (rkout_mk (Lk := []) _ HW rfl Sl.nil hK HO1.out.tail)
            · have hqb : ((s.ws m)[k] == who) = false := by simpa using hq
              have HQ := Lib.hid hq
              clear hq
              go_wp2
              exact ⟨⟨k + 1, by omega, by go_num, Lib.hid fun j hj hjk => by
                rcases Nat.lt_succ_iff_lt_or_eq.1 hjk with h' | rfl
                · exact HNQ.out j hj h'
                · exact HQ.out⟩, by simp [intOf]; omega⟩
          · obtain rfl : k = (s.ws m).length := by omega
            have hbad := badQ_no (s := s) (m := m) HT.out HIN.out (fun j hj => HNQ.out j hj hj)
            have HB := Lib.hid hbad
            clear HNQ HRM hbad
            by_cases hown : s.own m = some who
            · have hv : hasV (s.own m) = who := by rw [hown]; rfl
              rw [hv] at m0
              have HOW := Lib.hid hown
              have hmay := badQ_may HB.out
              clear hv
              by_cases hfull : 256 ≤ s.q.length
              · have HW := Lib.hid (show waitK s who m = ⟨false, 0, [], 7, s⟩ by simp [waitK, HB.out, hown, hfull])
                clear hown hmay hlq hlm hwl
                go_wp2
                obtain ⟨r0, r1, r2, r3, r4⟩ := HRR.out
                exact bodyPost_ret (v := .tuple #[outV false 0 0 0 (.slice none 0 0), .int .i64 7]) (by simp [results, Try.results76, go_sem, r0, r1, r2, r3, r4]) rfl (rkout_mk (Lk := []) _ HW rfl Sl.nil hK HO1.out.tail)
              · obtain ⟨o', ws', wn, hu⟩ := unlock_ok hmay hown
                have HW := Lib.hid (show waitK s who m = ⟨false, 0, wn, 0, (s.put m o' ws').withQ (s.q ++ [(who, m)])⟩ by unfold waitK; rw [HB.out, if_neg (by simp), if_neg (by simp [hown]), if_neg hfull, hu])
                have hp' : ∀ x ∈ ws', 0 ≤ x := by
                  have := unlockR_pos (own := s.own m) who HPOS.out
                  rw [hu] at this
                  exact this
                have HP := Lib.hid hp'
                have HU := Lib.hid hu
                obtain ⟨Lm2, R, hsp, ⟨hM2, hP2⟩, _, hback⟩ := hK.mutex (B := B) (w0 := w0) m
                have HX := Lib.hid (hsp _ ((Z, kZ) :: F) (HZ.out.perm List.perm_middle.symm))
                have HBACK := Lib.hid hback
                clear hown hmay hu hp' hsp hback HZ
                go_wp2_with fail
                refine (runlock67 B w0 (mb b0 b1 m) (s.own m) (s.ws m) Lm2 _ who _ hM2 hP2 HX.out).mono ?_
                rw [HU.out]
                rintro e w2 ⟨wk, Lk, Lm3, rfl, hSk, hM3, hO2⟩
                dsimp only at hSk hM3 ⊢
                obtain ⟨ak, ck, rfl, _, _⟩ := hSk.form
                obtain ⟨L2, hK2, hb2⟩ := HBACK.out o' ws' Lm3 ⟨hM3, HP.out⟩
                have hO3 := hb2 w2 (Lk ++ ((Z, kZ) :: F)) (hO2.shuf [Lm3, Lk, R, (Z, kZ) :: F] [0, 2, 1, 3] rfl rfl)
                obtain ⟨Lc, R2, hsp2, ⟨v, Lq, rfl, hsq, hlq2⟩, _, hback2⟩ := hK2.cond (B := B) (w0 := w0)
                have hO4 := hsp2 _ _ hO3
                have hq2 : (s.put m o' ws').q = s.q := by cases m <;> rfl
                rw [hq2] at hsq hlq2
                have hO5 := ((hO4.allocAt (kX (.slice ak wn.length ck)) (n := w2.heap.size) rfl).allocAt (wobj134 ⟨who, mb b0 b1 m⟩) (n := w2.heap.size + 1) (by simp)).shuf [[_], [_], [_], Lq, R2, Lk, [_], F] [0, 3, 1, 2, 4, 5, 6, 7] rfl rfl
                have k0 : w2.cell? ⟨bc, 0, none⟩ = some v := cell_of_get (hO4.get (bc, robj v) (by simp)) 0
                have kl := lt_of_get (hO4.get (bc, robj v) (by simp))
                have kl1 : bc < w2.heap.size + 1 := by omega
                obtain ⟨av, cv, rfl, _, _⟩ := hsq.form
                have HO5 := Lib.hid hO5
                have HB2 := Lib.hid hback2
                have HSQ := Lib.hid hsq
                have HSK := Lib.hid hSk
                clear hO2 hb2 hO3 hsp2 hback2 hO4 hO5 HBACK HX hM3 hM2 hP2 hK2 hq2 hsq hSk c0 m0 m1 z0 z1 z2 z3 z4 zf zl HRR HO1 hlt
                go_wp2_with (at_builtin; refine wpList_append_sl rfl (.tmp 79) (.tmp 83) 80 rfl _ _ _ Try.underlying80 hi hz0 hz1 hz2 rfl CW_len CW_one rfl HSQ.out (by exact HO5.out.tail) ⟨w2.heap.size + 1, 0, none⟩ [⟨who, mb b0 b1 m⟩] 1 1 rfl rfl (news_blk (C := #[.int .i64 who, .pointer (some ⟨mb b0 b1 m, 0, none⟩)]) (t := 134) (fr := (0, 0)) (by exact HO5.out.head)) (by decide) (by unfold maxLen; omega) (by omega) ?_)
                intro g off cap' w3 Lq' hS' hO6 _ _
                obtain ⟨L3, hK3, hb3⟩ := HB2.out (s.q ++ [(who, m)]) ((bc, robj (.slice (some ⟨g, off, none⟩) ((encQ b0 b1 s.q).length + 1) cap')) :: Lq') ⟨_, Lq', rfl, by simpa [encQ] using hS', by simp [encQ]; omega⟩
                have hO7 := hO6.shuf [Lq', [_], [_], R2, Lk, [_], F] [2, 0, 3, 5, 1, 4, 6] rfl rfl
                have k1 : w3.cell? ⟨bc, 0, none⟩ = some (.slice av (encQ b0 b1 s.q).length cv) := cell_of_get hO7.head 0
                have k0 := free_of_get hO7.head 0
                have kl := lt_of_get hO7.head
                have hO8 := (hb3 _ ((Z, kZ) :: (w2.heap.size, kX (.slice ak wn.length ck)) :: (Lk ++ F)) (hO7.setTo 0 (.slice (some ⟨g, off, none⟩) ((encQ b0 b1 s.q).length + 1) cap') rfl)).shuf [L3, [_], [_], Lk, F] [1, 2, 0, 3, 4] rfl rfl
                have hY := hO7.get (w2.heap.size, kX (.slice ak wn.length ck)) (by simp [cat])
                obtain ⟨y0, y1, y2, y3, y4⟩ := z5 hY
                have yl := lt_of_get hY
                have hZ := hO7.get (Z, kZ) (by simp [cat])
                obtain ⟨z0, z1, z2, z3, z4⟩ := z5 hZ
                have zf := free_of_get hZ
                have zl := lt_of_get hZ
                have hnY : bc ≠ w2.heap.size := by omega
                have hnZ : bc ≠ Z := fun e => hO7.notMem (by simp [cat, e])
                have hO9 := out5 hO8 (.bool false) (.int .i64 0) (.int .i64 0) (.int .i64 0) (.slice ak wn.length ck)
                have HR9 := Lib.hid (z5 hO9.head)
                have HO9 := Lib.hid hO9.tail.tail
                clear hO6 hO7 hO8 hO9 hY hZ hb3 HB2 HO5 hS'
                go_wp2
                obtain ⟨r0, r1, r2, r3, r4⟩ := HR9.out
                exact bodyPost_ret (v := .tuple #[outV false 0 0 0 (.slice ak wn.length ck), .int .i64 0]) (by simp [results, Try.results76, go_sem, r0, r1, r2, r3, r4]) rfl (rkout_mk (Lk := Lk) _ HW rfl HSK.out hK3 HO9.out)
            · have HW := Lib.hid (show waitK s who m = ⟨false, 10, [], 0, s⟩ by simp [waitK, HB.out, hown])
              have hq : (hasV (s.own m) != who) = true := by
                unfold thrB at *
                have h0 := HT.out
                simp only [Bool.and_eq_true, decide_eq_true_eq] at h0
                cases ho : s.own m with
                | none => simp [hasV]; omega
                | some y => rw [ho] at hown; simpa [hasV] using hown
              have hO2 := out5 HZ.out (.bool false) (.int .i64 0) (.int .i64 0) (.int .i64 10) (.slice none 0 0)
              have HR2 := Lib.hid (z5 hO2.head)
              have HO2 := Lib.hid hO2
              clear hO2 hown
              generalize hasV (s.own m) = hv at m0 hq
              go_wp2
              obtain ⟨r0, r1, r2, r3, r4⟩ := HR2.out
              exact bodyPost_ret (v := .tuple #[outV false 0 0 10 (.slice none 0 0), .int .i64 0]) (by simp [results, Try.results76, go_sem, r0, r1, r2, r3, r4]) rfl (rkout_mk (Lk := []) _ HW rfl Sl.nil hK HO2.out.tail)

end Go.Proofs.Ytidnkienkdlmkaa
