/-
  Contract of cond's Wait. Condition: few waiters.
-/
import Derived.Test.YtidnkienkdlmkaaCdD
import Derived.Deep.DeepCutAuto
import Derived.Deep.CutBlock
import Derived.Carry
namespace Go.Proofs.Ytidnkienkdlmkaa
open Go.RowKit Go.Sh

def inQ (q : List (Int × Bool)) (who : Int) : Bool := (q.map Prod.fst).contains who
def badQ (s : KS) (who : Int) (m : Bool) : Bool := decide (who < 0) || (decide (65536 ≤ who) || (inQ s.q who || (s.ws m).contains who))

theorem encQ_who (b0 b1 : Nat) (q : List (Int × Bool)) : (encQ b0 b1 q).map WC.who = q.map Prod.fst := by simp [encQ]

theorem qidx_cases (b0 b1 : Nat) (q : List (Int × Bool)) (who : Int) : (qidx (encQ b0 b1 q) who = -1 ∧ inQ q who = false) ∨ ∃ i : Nat, i < q.length ∧ qidx (encQ b0 b1 q) who = i ∧ inQ q who = true := by
  unfold qidx inQ
  rw [encQ_who]
  have hge := idx_ge (q.map Prod.fst) who
  rcases idx_cases (q.map Prod.fst) who with h | ⟨i, hi, h⟩
  · exact .inl ⟨h, by rw [h] at hge; exact hge.symm⟩
  · exact .inr ⟨i, by simpa using hi, h, by rw [h] at hge; rw [← hge]; simp⟩

/-- What an act comes to. -/
structure KR : Type where
  done : Bool
  fault : Int
  wakes : List Wk
  err : Int
  st : KS

def waitK (s : KS) (who : Int) (m : Bool) : KR :=
  if badQ s who m = true then ⟨false, 0, [], 1, s⟩
  else if s.own m ≠ some who then ⟨false, 10, [], 0, s⟩
  else if 256 ≤ s.q.length then ⟨false, 0, [], 7, s⟩
  else ⟨false, 0, (unlockR (s.own m) (s.ws m) who).wakes, 0, (s.put m (unlockR (s.own m) (s.ws m) who).own (unlockR (s.own m) (s.ws m) who).ws).withQ (s.q ++ [(who, m)])⟩

def KOutPost (B : Nat) (w0 : World) (bc b0 b1 : Nat) (F : List (Nat × Obj)) (r : KR) (e : Ending) (w' : World) : Prop :=
  ∃ wk Lk L', e = .returned (.tuple #[outV r.done 0 0 r.fault wk, .int .i64 r.err]) ∧ Sl 38 4 W4 wk r.wakes Lk ∧ Kw bc b0 b1 r.st L' ∧ Own B w0 w' (L' ++ (Lk ++ F))

theorem kout_mk {B : Nat} {w0 : World} {bc b0 b1 : Nat} {F L' Lk : List (Nat × Obj)} {r r' : KR} {e : Ending} {w' : World} (wk : Value) (HR : Hid (r = r')) (he : e = .returned (.tuple #[outV r'.done 0 0 r'.fault wk, .int .i64 r'.err]))
    (hk : Sl 38 4 W4 wk r'.wakes Lk) (hM : Kw bc b0 b1 r'.st L') (hO : Own B w0 w' (L' ++ (Lk ++ F))) : KOutPost B w0 bc b0 b1 F r e w' := by
  rw [HR.out]
  exact ⟨wk, Lk, L', he, hk, hM, hO⟩

/-- What a reader of a mutex needs. -/
theorem Kw.mem {bc b0 b1 : Nat} {s : KS} {L : List (Nat × Obj)} (h : Kw bc b0 b1 s L) (m : Bool) : ∃ Lm, Mx (mb b0 b1 m) (s.own m) (s.ws m) Lm ∧ ∀ p ∈ Lm, p ∈ L := by
  obtain ⟨Lc, L0, L1, rfl, hc, h0, h1⟩ := h
  cases m with
  | false => exact ⟨L0, h0, fun p hp => by simp [hp]⟩
  | true => exact ⟨L1, h1, fun p hp => by simp [hp]⟩

theorem Kw.rd {B : Nat} {w0 w : World} {bc b0 b1 : Nat} {s : KS} {L F : List (Nat × Obj)} (h : Kw bc b0 b1 s L) (hO : Own B w0 w F) (hL : ∀ p ∈ L, p ∈ F) :
    ∃ v, w.cell? ⟨bc, 0, none⟩ = some v ∧ Rd w CW v (encQ b0 b1 s.q) := by
  obtain ⟨Lc, L0, L1, rfl, ⟨v, Lq, rfl, hs, hl⟩, _, _⟩ := h
  exact ⟨v, cell_of_get (hO.get (bc, kobj v) (hL _ (by simp))) 0, Sl_rd hs (fun p hp => hO.get p (hL p (by simp [hp])))⟩

theorem Kw.wsLen {bc b0 b1 : Nat} {s : KS} {L : List (Nat × Obj)} (h : Kw bc b0 b1 s L) (m : Bool) : (s.ws m).length ≤ 256 := by
  obtain ⟨Lm, ⟨_, _, _, _, _, _, _, hl⟩, _⟩ := h.mem m
  exact hl

theorem badQ_may {s : KS} {who : Int} {m : Bool} (h : badQ s who m = false) : mayR (s.ws m) who = 0 := by
  unfold badQ at h
  simp only [Bool.or_eq_false_iff, decide_eq_false_iff_not] at h
  obtain ⟨h1, h2, _, h3⟩ := h
  unfold mayR
  rw [if_neg h1, if_neg h2, h3]
  rfl

theorem unlock_ok {own : Option Int} {ws : List Int} {who : Int} (h1 : mayR ws who = 0) (h2 : own = some who) : ∃ o' ws' wk, unlockR own ws who = ⟨true, 0, 0, o', ws', wk⟩ := by
  subst h2
  cases ws with
  | nil => exact ⟨none, [], [], by simp [unlockR, h1, hasB]⟩
  | cons x r => exact ⟨some x, r, [⟨x, 0, 0, 0⟩], by simp [unlockR, h1, hasB]⟩

set_option maxRecDepth 100000 in
set_option maxHeartbeats 4000000 in
theorem wait33 (B : Nat) (w0 : World) (bc b0 b1 : Nat) (s : KS) (L F : List (Nat × Obj)) (who : Int) (m : Bool) (w : World) (hK : Kw bc b0 b1 s L) (hO : Own B w0 w (L ++ F)) :
    Calls Try.prog 33 #[.pointer (some ⟨bc, 0, none⟩), .int .i64 who, .pointer (some ⟨mb b0 b1 m, 0, none⟩)] w (KOutPost B w0 bc b0 b1 F (waitK s who m)) := by
  obtain ⟨Lm, hM, hLm⟩ := hK.mem m
  have hwl := hK.wsLen m
  have hlq := hK.lenq
  have HZ := Lib.hid (hO.allocAt kZ (n := w.heap.size) rfl)
  obtain ⟨a, c, c0, c1, hlt⟩ := hK.cells hO (fun p hp => List.mem_append_left _ hp)
  have HC1 := Lib.hid c1
  clear hO c0 c1
  go_enter Try.func33, Try.ntmps33
  go_upto_region 1 with fail
  generalize hZ : w.heap.size = Z at HZ hlt ⊢
  clear hZ
  go_cut [18] (fun s18 wx => s18 = .bool false ∧ Own B w0 wx ((Z, kZ) :: (L ++ F)))
  case first =>
    go_wp2_with (first | (go_at_call 69; refine (knone bc true _ (cell_al _ HC1.out)).mono ?_; rintro e w' ⟨rfl, rfl⟩) | (go_at_call 25; (with_reducible refine (mclone_any B w0 (mb b0 b1 m) (s.own m) (s.ws m) Lm _ _ hM HZ.out (fun p hp => by simp [hLm p hp])).mono ?_); rintro e w2 ⟨b', L', rfl, hM', hO2⟩) | fail)
    go_meet
    exact ⟨rfl, hO2.right⟩
  case rest =>
    obtain ⟨rfl, hO⟩ := hcut
    have HO := Lib.hid hO
    clear HZ HC1 hO
    go_upto_region 3 with fail
    go_cut [39] (fun s39 wx => s39 = .bool (badQ s who m) ∧ Own B w0 wx ((Z, kZ) :: (L ++ F)))
    case first =>
      by_cases h1 : who < 0
      · have HR := Lib.hid (show badQ s who m = true by simp [badQ, h1])
        go_wp2_with fail
        go_meet
        exact ⟨by rw [HR.out], HO.out⟩
      · by_cases h2 : 65536 ≤ who
        · have HR := Lib.hid (show badQ s who m = true by simp [badQ, h2])
          go_wp2_with fail
          go_meet
          exact ⟨by rw [HR.out], HO.out⟩
        · obtain ⟨v, hv, hrd⟩ := hK.rd HO.out (fun p hp => by simp [hp])
          have hRD := Lib.hid hrd
          clear hrd
          rcases qidx_cases b0 b1 s.q who with ⟨hi, hq⟩ | ⟨i, _, hi, hq⟩
          · have HI := Lib.hid hi
            cases hw : (s.ws m).contains who with
            | true =>
              have HR := Lib.hid (show badQ s who m = true by unfold badQ; rw [hw]; simp)
              have HW := Lib.hid hw
              clear hi hq hw
              go_wp2_with (first | (go_at_call 70; (with_reducible refine (at70 B w0 _ (encQ b0 b1 s.q) v bc who _ hv hRD.out HO.out (by simp [encQ]; omega)).mono ?_); rintro e w2 ⟨rfl, hO2, _⟩; rw [HI.out]) | (go_at_call 21; (with_reducible refine (waits_any B w0 (mb b0 b1 m) (s.own m) (s.ws m) Lm _ _ hM hO2 (fun p hp => by simp [hLm p hp])).mono ?_); rintro e w3 ⟨v3, L3, rfl, hS3, hO3⟩; obtain ⟨a3, c3, rfl, _, _⟩ := hS3.form; have hr3 := Lib.hid (Sl_rd hS3 (fun p hp => hO3.get p (List.mem_append_left _ hp)))) | (go_at_call 23; (with_reducible refine (contains_any (s.ws m) who _ _ (by omega) hr3.out).mono ?_); rintro e w4 ⟨rfl, rfl⟩; rw [HW.out]) | fail)
              go_meet
              exact ⟨by rw [HR.out], hO3.right⟩
            | false =>
              have HR := Lib.hid (show badQ s who m = false by unfold badQ; rw [hw, hq]; simp; omega)
              have HW := Lib.hid hw
              clear hi hq hw
              go_wp2_with (first | (go_at_call 70; (with_reducible refine (at70 B w0 _ (encQ b0 b1 s.q) v bc who _ hv hRD.out HO.out (by simp [encQ]; omega)).mono ?_); rintro e w2 ⟨rfl, hO2, _⟩; rw [HI.out]) | (go_at_call 21; (with_reducible refine (waits_any B w0 (mb b0 b1 m) (s.own m) (s.ws m) Lm _ _ hM hO2 (fun p hp => by simp [hLm p hp])).mono ?_); rintro e w3 ⟨v3, L3, rfl, hS3, hO3⟩; obtain ⟨a3, c3, rfl, _, _⟩ := hS3.form; have hr3 := Lib.hid (Sl_rd hS3 (fun p hp => hO3.get p (List.mem_append_left _ hp)))) | (go_at_call 23; (with_reducible refine (contains_any (s.ws m) who _ _ (by omega) hr3.out).mono ?_); rintro e w4 ⟨rfl, rfl⟩; rw [HW.out]) | fail)
              go_meet
              exact ⟨by rw [HR.out], hO3.right⟩
          · have HR := Lib.hid (show badQ s who m = true by unfold badQ; rw [hq]; simp)
            have HI := Lib.hid hi
            clear hi hq
            go_wp2_with (first | (go_at_call 70; (with_reducible refine (at70 B w0 _ (encQ b0 b1 s.q) v bc who _ hv hRD.out HO.out (by simp [encQ]; omega)).mono ?_); rintro e w2 ⟨rfl, hO2, _⟩; rw [HI.out]) | (go_at_call 21; (with_reducible refine (waits_any B w0 (mb b0 b1 m) (s.own m) (s.ws m) Lm _ _ hM hO2 (fun p hp => by simp [hLm p hp])).mono ?_); rintro e w3 ⟨v3, L3, rfl, hS3, hO3⟩; obtain ⟨a3, c3, rfl, _, _⟩ := hS3.form; have hr3 := Lib.hid (Sl_rd hS3 (fun p hp => hO3.get p (List.mem_append_left _ hp)))) | (go_at_call 23; (with_reducible refine (contains_any (s.ws m) who _ _ (by omega) hr3.out).mono ?_); rintro e w4 ⟨rfl, rfl⟩; rw [HW.out]) | fail)
            go_meet
            exact ⟨by rw [HR.out], hO2⟩
    case rest =>
      obtain ⟨rfl, hO⟩ := hcut
      clear HO
      cases hbad : badQ s who m with
      | true =>
        have HR := Lib.hid (show waitK s who m = ⟨false, 0, [], 1, s⟩ by simp [waitK, hbad])
        obtain ⟨z0, z1, z2, z3, z4⟩ := z5 hO.head
        have zf := free_of_get hO.head
        have zl := lt_of_get hO.head
        have hO2 := out5 hO (.bool false) (.int .i64 0) (.int .i64 0) (.int .i64 0) (.slice none 0 0)
        obtain ⟨r0, r1, r2, r3, r4⟩ := z5 hO2.head
        clear hO hbad
        go_wp2
        exact bodyPost_ret (v := .tuple #[outV false 0 0 0 (.slice none 0 0), .int .i64 1]) (by simp [results, Try.results33, go_sem, r0, r1, r2, r3, r4]) rfl (kout_mk (Lk := []) _ HR rfl Sl.nil hK hO2.tail)
      | false =>
        have HB := Lib.hid hbad
        have hg := Lib.hid (show ∀ p ∈ Lm, _ from fun p hp => hO.get p (by simp [hLm p hp]))
        clear hbad
        go_wp2_with fail
        refine (owner_any (mb b0 b1 m) (s.own m) (s.ws m) Lm _ hM hg.out).mono ?_
        rintro e w' ⟨rfl, rfl⟩
        by_cases hown : s.own m = some who
        · have hv : ownV (s.own m) = .tuple #[.int .i64 who, .bool true] := by rw [hown]; rfl
          rw [hv]
          have HOW := Lib.hid hown
          have hmay := badQ_may HB.out
          obtain ⟨a, c, c0, c1, hlt1⟩ := hK.cells hO (fun p hp => by simp [hp])
          clear hv hown
          by_cases hfull : 256 ≤ s.q.length
          · have HR := Lib.hid (show waitK s who m = ⟨false, 0, [], 7, s⟩ by simp [waitK, HB.out, HOW.out, hfull])
            obtain ⟨z0, z1, z2, z3, z4⟩ := z5 hO.head
            have zf := free_of_get hO.head
            have zl := lt_of_get hO.head
            have hO2 := out5 hO (.bool false) (.int .i64 0) (.int .i64 0) (.int .i64 0) (.slice none 0 0)
            obtain ⟨r0, r1, r2, r3, r4⟩ := z5 hO2.head
            clear hO hmay
            go_wp2
            exact bodyPost_ret (v := .tuple #[outV false 0 0 0 (.slice none 0 0), .int .i64 7]) (by simp [results, Try.results33, go_sem, r0, r1, r2, r3, r4]) rfl (kout_mk (Lk := []) _ HR rfl Sl.nil hK hO2.tail)
          · obtain ⟨o', ws', wn, hu⟩ := unlock_ok hmay HOW.out
            have HR := Lib.hid (show waitK s who m = ⟨false, 0, wn, 0, (s.put m o' ws').withQ (s.q ++ [(who, m)])⟩ by unfold waitK; rw [HB.out, if_neg (by simp), if_neg (by simp [HOW.out]), if_neg hfull, hu])
            have HU := Lib.hid hu
            obtain ⟨Lm2, R, hsp, hM2, _, hback⟩ := hK.mutex (B := B) (w0 := w0) m
            have HO1 := Lib.hid (hsp _ ((Z, kZ) :: F) (hO.perm List.perm_middle.symm))
            have HBACK := Lib.hid hback
            clear hO hu hsp hback hmay hg
            go_wp2_with fail
            refine (unlock_any B w0 (mb b0 b1 m) (s.own m) (s.ws m) Lm2 _ who _ hM2 HO1.out).mono ?_
            rw [HU.out]
            rintro e w2 ⟨wk, Lk, Lm3, rfl, hSk, hM3, hO2⟩
            dsimp only at hSk hM3 ⊢
            obtain ⟨ak, ck, rfl, _, _⟩ := hSk.form
            obtain ⟨L2, hK2, hb2⟩ := HBACK.out o' ws' Lm3 hM3
            have hO3 := hb2 w2 (Lk ++ ((Z, kZ) :: F)) (hO2.shuf [Lm3, Lk, R, (Z, kZ) :: F] [0, 2, 1, 3] rfl rfl)
            obtain ⟨Lc, R2, hsp2, ⟨v, Lq, rfl, hsq, hlq2⟩, _, hback2⟩ := hK2.cond (B := B) (w0 := w0)
            have hO4 := hsp2 _ _ hO3
            have hq2 : (s.put m o' ws').q = s.q := by cases m <;> rfl
            rw [hq2] at hsq hlq2
            have HO5 := Lib.hid ((hO4.allocAt (kX (.slice ak wn.length ck)) (n := w2.heap.size) rfl).shuf [[_], [_], Lq, R2, Lk, (Z, kZ) :: F] [2, 1, 0, 3, 4, 5] rfl rfl)
            have HB2 := Lib.hid hback2
            have HSQ := Lib.hid hsq
            have HSK := Lib.hid hSk
            clear hO2 hb2 hO3 hsp2 hback2 hO4 HBACK HO1 hM3 hK2 hq2 hsq hSk c0 c1
            go_wp2_with fail
            refine (put71 B w0 bc 0 73 #[v, .bool true] (encQ b0 b1 s.q) ⟨who, mb b0 b1 m⟩ v Lq _ _ HSQ.out rfl HO5.out (by simp [encQ]; omega)).mono ?_
            rintro e w3 ⟨rfl, v', Lq', hSq', hO6⟩
            obtain ⟨L3, hK3, hb3⟩ := HB2.out (s.q ++ [(who, m)]) ((bc, kobj v') :: Lq') ⟨v', Lq', rfl, by simpa [encQ] using hSq', by simp [encQ]; omega⟩
            have hO7 := hb3 w3 ((Z, kZ) :: (w2.heap.size, kX (.slice ak wn.length ck)) :: (Lk ++ F)) (hO6.shuf [Lq', [_], [_], R2, Lk, [_], F] [1, 0, 3, 5, 2, 4, 6] rfl rfl)
            have hO8 := hO7.shuf [L3, [_], [_], Lk, F] [2, 1, 0, 3, 4] rfl rfl
            have hY := hO8.head
            obtain ⟨y0, y1, y2, y3, y4⟩ := z5 hY
            have yf := free_of_get hY
            have yl := lt_of_get hY
            have hZ := hO8.tail.head
            obtain ⟨z0, z1, z2, z3, z4⟩ := z5 hZ
            have zf := free_of_get hZ
            have zl := lt_of_get hZ
            have hYZ : w2.heap.size ≠ Z := fun e => hO8.notMem (by simp [cat, e])
            have hZY : Z ≠ w2.heap.size := fun e => hYZ e.symm
            have hO9 := out5 ((hO8.setTo 0 (.bool false) rfl).shuf [[_], [_], L3 ++ (Lk ++ F)] [1, 0, 2] rfl rfl) (.bool false) (.int .i64 0) (.int .i64 0) (.int .i64 0) (.slice ak wn.length ck)
            obtain ⟨r0, r1, r2, r3, r4⟩ := z5 hO9.head
            have HO9 := Lib.hid hO9.tail.tail
            clear hO6 hO7 hO8 hO9 hY hZ hb3 HB2 HO5 hSq'
            go_wp2
            exact bodyPost_ret (v := .tuple #[outV false 0 0 0 (.slice ak wn.length ck), .int .i64 0]) (by simp [results, Try.results33, go_sem, r0, r1, r2, r3, r4]) rfl (kout_mk (Lk := Lk) _ HR rfl HSK.out hK3 HO9.out)
        · have HR := Lib.hid (show waitK s who m = ⟨false, 10, [], 0, s⟩ by simp [waitK, HB.out, hown])
          obtain ⟨z0, z1, z2, z3, z4⟩ := z5 hO.head
          have zf := free_of_get hO.head
          have zl := lt_of_get hO.head
          have hO2 := out5 hO (.bool false) (.int .i64 0) (.int .i64 0) (.int .i64 10) (.slice none 0 0)
          obtain ⟨r0, r1, r2, r3, r4⟩ := z5 hO2.head
          cases ho : s.own m with
          | none =>
            clear hO hown ho
            dsimp only [ownV, Option.getD_none, Option.isSome_none]
            go_wp2
            exact bodyPost_ret (v := .tuple #[outV false 0 0 10 (.slice none 0 0), .int .i64 0]) (by simp [results, Try.results33, go_sem, r0, r1, r2, r3, r4]) rfl (kout_mk (Lk := []) _ HR rfl Sl.nil hK hO2.tail)
          | some y =>
            have hy : (y != who) = true := by rw [ho] at hown; simpa using hown
            clear hO hown ho
            dsimp only [ownV, Option.getD_some, Option.isSome_some]
            go_wp2
            exact bodyPost_ret (v := .tuple #[outV false 0 0 10 (.slice none 0 0), .int .i64 0]) (by simp [results, Try.results33, go_sem, r0, r1, r2, r3, r4]) rfl (kout_mk (Lk := []) _ HR rfl Sl.nil hK hO2.tail)

end Go.Proofs.Ytidnkienkdlmkaa
