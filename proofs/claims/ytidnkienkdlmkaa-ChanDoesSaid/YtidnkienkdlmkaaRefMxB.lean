/-
  The document's mutex: contracts of Lock, Unlock, Drop. Conditions: the owner is a thread; at most 256 threads wait.
-/
import Derived.Test.YtidnkienkdlmkaaRefMx
namespace Go.Proofs.Ytidnkienkdlmkaa
open Go.RowKit Go.Sh

def RLockPost (B : Nat) (w0 : World) (b : Nat) (F : List (Nat × Obj)) (r : LkR) (e : Ending) (w' : World) : Prop :=
  e = .returned (.tuple #[outV r.done 0 0 r.fault (.slice none 0 0), .int .i64 r.err]) ∧ ∃ L', Rx b r.own r.ws L' ∧ Own B w0 w' (L' ++ F)

theorem rlockPost_mk {B : Nat} {w0 : World} {b : Nat} {F L' : List (Nat × Obj)} {r r' : LkR} {e : Ending} {w' : World} (HR : Hid (r = r')) (he : e = .returned (.tuple #[outV r'.done 0 0 r'.fault (.slice none 0 0), .int .i64 r'.err]))
    (hM : Rx b r'.own r'.ws L') (hO : Own B w0 w' (L' ++ F)) : RLockPost B w0 b F r e w' := by
  rw [HR.out]
  exact ⟨he, L', hM, hO⟩

theorem badB_zero {ws : List Int} {who : Int} (h : mayR ws who = 0) : badB ws who = false := by simp [badB, h]
theorem badB_one {ws : List Int} {who : Int} (h : mayR ws who = 1) : badB ws who = true := by simp [badB, h]
theorem mayR_ge {ws : List Int} {who : Int} (h : mayR ws who = 0) : 0 ≤ who := by
  by_cases hn : who < 0
  · simp [mayR, hn] at h
  · omega

set_option maxRecDepth 100000 in
set_option maxHeartbeats 2000000 in
theorem rlock66 (B : Nat) (w0 : World) (b : Nat) (own : Option Int) (ws : List Int) (L F : List (Nat × Obj)) (who : Int) (w : World) (hM : Rx b own ws L) (hO : Own B w0 w (L ++ F)) :
    Calls Try.prog 66 #[.pointer (some ⟨b, 0, none⟩), .int .i64 who] w (RLockPost B w0 b F (lockR own ws who)) := by
  obtain ⟨i0, hi, hz0, hz1, hz2⟩ := info_parts Try.info3
  have hO2 := hO.junk (.cells #[.bool false, .int .i64 0, .int .i64 0, .int .i64 0, .slice none 0 0] 33)
  have hg2 : ∀ p ∈ L, _ := fun p hp => hO2.get p (List.mem_append_left _ hp)
  rcases mayR_cases ws who with h1 | h1
  · have H1 := Lib.hid (badB_zero h1)
    have h0 := mayR_ge h1
    have hM' := hM
    obtain ⟨v, Lv, rfl, hn, hs, hl⟩ := hM'
    have hO3 := hO
    simp only [List.cons_append] at hO3
    have hc0 : w.cell? ⟨b, 0, none⟩ = some (.int .i64 (hasV own)) := cell_of_get hO3.head 0
    have hc1 : w.cell? ⟨b, 1, none⟩ = some v := cell_of_get hO3.head 1
    have hf0 : w.frozen? ⟨b, 0, none⟩ = false := free_of_get hO3.head 0
    have hf1 : w.frozen? ⟨b, 1, none⟩ = false := free_of_get hO3.head 1
    have hlt := lt_of_get hO3.head
    have hlt1 : b < w.heap.size + 1 := by omega
    obtain ⟨ao, cap, rfl, hcap, hcm⟩ := hs.form
    have HCM := Lib.hid hcm
    clear hcm
    cases own with
    | none =>
      have HR := Lib.hid (show lockR none ws who = ⟨true, 0, 0, some who, ws⟩ by simp [lockR, h1, hasB])
      have hv : hasV none = -1 := rfl
      rw [hv] at hc0
      have hq : ((-1 : Int) == who) = false := by simp; omega
      have hvw : Hid (hasV (some who) = who) := rfl
      clear h1 hv
      go_enter Try.func66, Try.ntmps66
      go_wp2_with (first | (go_at_call 102; refine (bad102 b none ws _ who _ hM hg2).mono ?_; rintro e w' ⟨rfl, rfl⟩; rw [H1.out]))
      have hO4 := ((hO3.setTo 0 (.int .i64 who) rfl).junk (.cells #[.bool true, .int .i64 0, .int .i64 0, .int .i64 0, .slice none 0 0] 33))
      refine bodyPost_ret (v := .tuple #[outV true 0 0 0 (.slice none 0 0), .int .i64 0]) (by simp [results, Try.results66, go_sem]) rfl (rlockPost_mk (L' := (b, Obj.cells #[.int .i64 who, .slice ao ws.length cap] 87 (0, 0)) :: Lv) HR rfl ⟨_, Lv, by rw [show hasV (some who) = who from rfl], fun x e => by cases e; exact h0, hs, hl⟩ (by simpa using hO4))
    | some x =>
      have hx0 := hn x rfl
      have hv : hasV (some x) = x := rfl
      rw [hv] at hc0
      by_cases hxw : x = who
      · subst hxw
        have HR := Lib.hid (show lockR (some x) ws x = ⟨false, 10, 0, some x, ws⟩ by simp [lockR, h1, hasB])
        clear h1
        go_enter Try.func66, Try.ntmps66
        go_wp2_with (first | (go_at_call 102; refine (bad102 b _ ws _ x _ hM hg2).mono ?_; rintro e w' ⟨rfl, rfl⟩; rw [H1.out]))
        exact bodyPost_ret (v := .tuple #[outV false 0 0 10 (.slice none 0 0), .int .i64 0]) (by simp [results, Try.results66, go_sem]) rfl (rlockPost_mk HR rfl hM (hO.junk _))
      · have hq : (x == who) = false := by simp [hxw]
        by_cases h3 : 256 ≤ ws.length
        · have HR := Lib.hid (show lockR (some x) ws who = ⟨false, 0, 7, some x, ws⟩ by simp [lockR, h1, hasB, hxw, h3])
          clear h1
          go_enter Try.func66, Try.ntmps66
          go_wp2_with (first | (go_at_call 102; refine (bad102 b _ ws _ who _ hM hg2).mono ?_; rintro e w' ⟨rfl, rfl⟩; rw [H1.out]))
          exact bodyPost_ret (v := .tuple #[outV false 0 0 0 (.slice none 0 0), .int .i64 7]) (by simp [results, Try.results66, go_sem]) rfl (rlockPost_mk HR rfl hM (hO.junk _))
        · have HR := Lib.hid (show lockR (some x) ws who = ⟨false, 0, 0, some x, ws ++ [who]⟩ by simp [lockR, h1, hasB, hxw, h3])
          have hO6 := (hO3.allocAt (.cells #[.bool false, .int .i64 0, .int .i64 0, .int .i64 0, .slice none 0 0] 33) rfl).shuf [[_], [_], Lv, F] [2, 1, 0, 3] rfl rfl
          clear h1
          go_enter Try.func66, Try.ntmps66
          go_wp2_with (first | (go_at_call 102; refine (bad102 b _ ws _ who _ hM hg2).mono ?_; rintro e w' ⟨rfl, rfl⟩; rw [H1.out]) | (at_builtin; refine wpList_append_sl rfl (.tmp 10) (.tmp 12) 26 rfl _ _ _ Try.underlying26 hi hz0 hz1 hz2 rfl I_len I_one rfl hs (by exact hO6.junk _) ⟨w.heap.size + 1, 0, none⟩ [who] 1 1 rfl rfl (news_one (x := .int .i64 who) (by simp [World.cell?_alloc_at])) (by decide) (by unfold maxLen; omega) (by omega) ?_))
          intro g off cap' w1 L1 hS1 hO1 _ _
          have hO7 := hO1.shuf [L1, [_], [_], F] [1, 2, 0, 3] rfl rfl
          have k0 : w1.cell? ⟨b, 1, none⟩ = some (.slice ao ws.length cap) := cell_of_get hO7.head 1
          have k1 : w1.frozen? ⟨b, 1, none⟩ = false := free_of_get hO7.head 1
          have hO8 := hO7.shuf [[_], [_], L1, F] [1, 0, 2, 3] rfl rfl
          have hh := hO8.head
          have c0 := cell_of_get hh 0
          have c1 := cell_of_get hh 1
          have c2 := cell_of_get hh 2
          have c3 := cell_of_get hh 3
          have c4 := cell_of_get hh 4
          have f0 := free_of_get hh
          simp at c0 c1 c2 c3 c4
          have hne : b ≠ w.heap.size := by omega
          clear hO6 hO1 hh hO2 hg2 hM hO hO3 hc0 hc1 hf0 hf1
          go_wp2
          have hO9 := (((((hO7.setTo 1 (.slice (some ⟨g, off, none⟩) (ws.length + 1) cap') rfl).shuf [[_], [_], L1, F] [1, 0, 2, 3] rfl rfl).setTo 0 (.bool false) rfl).setTo 1 (.int .i64 0) rfl).setTo 2 (.int .i64 0) rfl).setTo 3 (.int .i64 0) rfl |>.setTo 4 (.slice none 0 0) rfl
          have r := cell_of_get hO9.head
          have r0 := r 0
          have r1 := r 1
          have r2 := r 2
          have r3 := r 3
          have r4 := r 4
          clear r c0 c1 c2 c3 c4 k0 k1
          refine bodyPost_ret (v := .tuple #[outV false 0 0 0 (.slice none 0 0), .int .i64 0]) (by simp [results, Try.results66, go_sem, r0, r1, r2, r3, r4]) rfl (rlockPost_mk (L' := (b, Obj.cells #[.int .i64 x, .slice (some ⟨g, off, none⟩) (ws.length + 1) cap'] 87 (0, 0)) :: L1) HR rfl ?_ (by simpa [cat] using hO9.tail))
          exact ⟨_, L1, rfl, hn, hS1, by simp; omega⟩
  · have HR := Lib.hid (show lockR own ws who = ⟨false, 0, 1, own, ws⟩ by simp [lockR, h1])
    have H1 := Lib.hid (badB_one h1)
    clear h1
    go_enter Try.func66, Try.ntmps66
    go_wp2_with (first | (go_at_call 102; refine (bad102 b own ws L who _ hM hg2).mono ?_; rintro e w' ⟨rfl, rfl⟩; rw [H1.out]))
    exact bodyPost_ret (v := .tuple #[outV false 0 0 0 (.slice none 0 0), .int .i64 1]) (by simp [results, Try.results66, go_sem]) rfl (rlockPost_mk HR rfl hM (hO.junk _))

def RUnlockPost (B : Nat) (w0 : World) (b : Nat) (F : List (Nat × Obj)) (r : UkR) (e : Ending) (w' : World) : Prop :=
  ∃ wk Lk L', e = .returned (.tuple #[outV r.done 0 0 r.fault wk, .int .i64 r.err]) ∧ Sl 38 4 W4 wk r.wakes Lk ∧ Rx b r.own r.ws L' ∧ Own B w0 w' (L' ++ (Lk ++ F))

theorem runlockPost_mk {B : Nat} {w0 : World} {b : Nat} {F L' Lk : List (Nat × Obj)} {r r' : UkR} {e : Ending} {w' : World} (wk : Value) (HR : Hid (r = r')) (he : e = .returned (.tuple #[outV r'.done 0 0 r'.fault wk, .int .i64 r'.err]))
    (hk : Sl 38 4 W4 wk r'.wakes Lk) (hM : Rx b r'.own r'.ws L') (hO : Own B w0 w' (L' ++ (Lk ++ F))) : RUnlockPost B w0 b F r e w' := by
  rw [HR.out]
  exact ⟨wk, Lk, L', he, hk, hM, hO⟩

set_option maxRecDepth 100000 in
set_option maxHeartbeats 2000000 in
theorem runlock67 (B : Nat) (w0 : World) (b : Nat) (own : Option Int) (ws : List Int) (L F : List (Nat × Obj)) (who : Int) (w : World) (hM : Rx b own ws L) (hp : ∀ x ∈ ws, 0 ≤ x) (hO : Own B w0 w (L ++ F)) :
    Calls Try.prog 67 #[.pointer (some ⟨b, 0, none⟩), .int .i64 who] w (RUnlockPost B w0 b F (unlockR own ws who)) := by
  obtain ⟨i0, hi, hz0, hz1, hz2⟩ := info_parts Try.info3
  have hO2 := hO.junk (.cells #[.bool false, .int .i64 0, .int .i64 0, .int .i64 0, .slice none 0 0] 33)
  have hg2 : ∀ p ∈ L, _ := fun p hp => hO2.get p (List.mem_append_left _ hp)
  rcases mayR_cases ws who with h1 | h1
  · have H1 := Lib.hid (badB_zero h1)
    have h0 := mayR_ge h1
    have hM' := hM
    obtain ⟨v, Lv, rfl, hn, hs, hl⟩ := hM'
    have hO3 := hO
    simp only [List.cons_append] at hO3
    have hc0 : w.cell? ⟨b, 0, none⟩ = some (.int .i64 (hasV own)) := cell_of_get hO3.head 0
    have hc1 : w.cell? ⟨b, 1, none⟩ = some v := cell_of_get hO3.head 1
    have hf0 : w.frozen? ⟨b, 0, none⟩ = false := free_of_get hO3.head 0
    have hf1 : w.frozen? ⟨b, 1, none⟩ = false := free_of_get hO3.head 1
    have hlt := lt_of_get hO3.head
    have hlt1 : b < w.heap.size + 1 := by omega
    cases h2 : hasB own who with
    | false =>
      have HR := Lib.hid (show unlockR own ws who = ⟨false, 10, 0, own, ws, []⟩ by simp [unlockR, h1, h2])
      have hq : (hasV own != who) = true := by
        cases own with
        | none => simp [hasV]; omega
        | some x => simpa [hasV, hasB] using h2
      clear h1 h2
      go_enter Try.func67, Try.ntmps67
      go_wp2_with (first | (go_at_call 102; refine (bad102 b own ws _ who _ hM hg2).mono ?_; rintro e w' ⟨rfl, rfl⟩; rw [H1.out]))
      exact bodyPost_ret (v := .tuple #[outV false 0 0 10 (.slice none 0 0), .int .i64 0]) (by simp [results, Try.results67, go_sem]) rfl (runlockPost_mk _ HR rfl Sl.nil hM (hO.junk _))
    | true =>
      obtain rfl := hasB_true h2
      have hv : hasV (some who) = who := rfl
      rw [hv] at hc0
      cases ws with
      | nil =>
        have HR := Lib.hid (show unlockR (some who) [] who = ⟨true, 0, 0, none, [], []⟩ by simp [unlockR, h1, h2])
        obtain ⟨ao, cap, rfl, hcap, hcm⟩ := hs.form
        have HCM := Lib.hid hcm
        clear h1 h2 hcm hv
        go_enter Try.func67, Try.ntmps67
        go_wp2_with (first | (go_at_call 102; refine (bad102 b _ _ _ who _ hM hg2).mono ?_; rintro e w' ⟨rfl, rfl⟩; rw [H1.out]))
        have hO4 := ((hO3.setTo 0 (.int .i64 (-1)) rfl).junk (.cells #[.bool true, .int .i64 0, .int .i64 0, .int .i64 0, .slice none 0 0] 33)).junk (.cells #[.bool true, .int .i64 0, .int .i64 0, .int .i64 0, .slice none 0 0] 33)
        refine bodyPost_ret (v := .tuple #[outV true 0 0 0 (.slice none 0 0), .int .i64 0]) (by simp [results, Try.results67, go_sem]) rfl (runlockPost_mk (L' := (b, Obj.cells #[.int .i64 (-1), .slice ao 0 cap] 87 (0, 0)) :: Lv) _ HR rfl Sl.nil ⟨_, Lv, rfl, by simp, hs, by simp⟩ (by simpa using hO4))
      | cons x r =>
        have HR := Lib.hid (show unlockR (some who) (x :: r) who = ⟨true, 0, 0, some x, r, [⟨x, 0, 0, 0⟩]⟩ by simp [unlockR, h1, h2])
        rcases hs with ⟨_, h, _⟩ | ⟨g, off, cap, cur, rfl, rfl, hcap, hcm, hsz, hcur⟩
        · cases h
        · have hs : Sl 3 1 I (.slice (some ⟨g, off, none⟩) (x :: r).length cap) (x :: r) [(g, Obj.cells cur 3 (0, 0))] := .inr ⟨g, off, cap, cur, rfl, rfl, hcap, hcm, hsz, hcur⟩
          have hgb : w.heap[g]? = some (.cells cur 3 (0, 0)) := hO3.get (g, .cells cur 3 (0, 0)) (by simp)
          have hlg := lt_of_get hgb
          have hlg1 : g < w.heap.size + 1 := by omega
          have hx0 : w.cell? ⟨g, off, none⟩ = some (.int .i64 x) := by
            rw [cell_of_get hgb]
            have : (List.take ((x :: r).length * 1) (List.drop off cur.toList))[0]? = some (.int .i64 x) := by rw [hcur]; rfl
            simpa [List.getElem?_take] using this
          have HCM := Lib.hid hcm
          have hne : b ≠ g := by
            have hnd := hO3.nodup
            simp only [List.map_cons, List.cons_append, List.nil_append, List.nodup_cons, List.mem_cons, not_or] at hnd
            exact hnd.1.1
          have hne' : g ≠ b := fun e => hne e.symm
          obtain ⟨off', hoff, hS'⟩ := hs.dropIf I_len 1 (by simp) (cap = 1) id
          rw [show off + 1 * 1 = off + 1 from rfl] at hoff
          have hlt2 : b < w.heap.size + 1 + 1 := by omega
          have hcap' : r.length + 1 ≤ cap := hcap
          have hn1 : (0 : Int) < (r.length : Int) + 1 := by omega
          have hO4 := ((((hO3.setTo 0 (.int .i64 (-1)) rfl).setTo 0 (.int .i64 x) rfl).allocAt (.cells #[.bool false, .int .i64 0, .int .i64 0, .int .i64 0, .slice none 0 0] 33) (n := w.heap.size) (by simp)).allocAt (.cells #[.bool true, .int .i64 0, .int .i64 0, .int .i64 0, .slice (some ⟨w.heap.size + 1 + 1, 0, none⟩) 1 1] 33) (n := w.heap.size + 1) (by simp)).allocAt (.cells #[.int .i64 x, .int .i64 0, .int .i64 0, .int .i64 0] 38) (n := w.heap.size + 1 + 1) (by simp)
          have hcase : (cap = 1 ∧ off' = off) ∨ (¬ cap = 1 ∧ off' = off + 1) := by
            by_cases hc : cap = 1
            · rw [if_pos hc] at hoff; simp at hoff; exact .inl ⟨hc, hoff.symm⟩
            · rw [if_neg hc] at hoff; simp at hoff; exact .inr ⟨hc, hoff.symm⟩
          clear h1 h2 hcm hcur hgb hsz hv hs hoff
          rcases hcase with ⟨rfl, rfl⟩ | ⟨hc, rfl⟩
          · obtain rfl : r = [] := List.eq_nil_of_length_eq_zero (by omega)
            clear hS'
            go_enter Try.func67, Try.ntmps67
            go_wp2_with (first | (go_at_call 102; refine (bad102 b _ _ _ who _ hM hg2).mono ?_; rintro e w' ⟨rfl, rfl⟩; rw [H1.out]))
            have hO5 := (((((((hO3.setTo 0 (.int .i64 (-1)) rfl).setTo 0 (.int .i64 x) rfl).setTo 1 (.slice none 0 0) rfl).junk (.cells #[.bool true, .int .i64 0, .int .i64 0, .int .i64 0, .slice (some ⟨w.heap.size + 1 + 1, 0, none⟩) 1 1] 33)).junk (.cells #[.bool true, .int .i64 0, .int .i64 0, .int .i64 0, .slice (some ⟨w.heap.size + 1 + 1, 0, none⟩) 1 1] 33)).allocAt (.cells #[.int .i64 x, .int .i64 0, .int .i64 0, .int .i64 0] 38) (n := w.heap.size + 1 + 1) (by simp))).shuf [[_], [_], [_], F] [2, 1, 0, 3] rfl rfl
            refine bodyPost_ret (v := .tuple #[outV true 0 0 0 (.slice (some ⟨w.heap.size + 1 + 1, 0, none⟩) 1 1), .int .i64 0]) (by simp [results, Try.results67, go_sem]) rfl (runlockPost_mk (Lk := [(w.heap.size + 1 + 1, Obj.cells #[.int .i64 x, .int .i64 0, .int .i64 0, .int .i64 0] 38 (0, 0))]) (L' := (b, Obj.cells #[.int .i64 x, .slice none 0 0] 87 (0, 0)) :: []) _ HR rfl (.inr ⟨_, 0, 1, _, rfl, rfl, by simp, by simp [maxLen], by simp, by simp⟩) ⟨_, [], rfl, fun y e => by cases e; exact hp x (by simp), Sl.nil, by simp⟩ (by simpa [cat] using hO5.tail))
          · have HS' := Lib.hid hS'
            clear hS'
            go_enter Try.func67, Try.ntmps67
            go_wp2_with (first | (go_at_call 102; refine (bad102 b _ _ _ who _ hM hg2).mono ?_; rintro e w' ⟨rfl, rfl⟩; rw [H1.out]) | (at_builtin; refine wpList_append_all rfl (.const (.slice none 0 0)) (.tmp 51) 26 rfl _ _ _ Try.underlying26 hi hz0 hz1 hz2 rfl I_len I_one rfl (Sl.nil (e := 3) (k := 1) (enc := I)) hO4 _ rfl r [(g, Obj.cells cur 3 (0, 0))] (by exact HS'.out) (by simp) (by simp only [List.length_cons] at hl; simp [maxLen]; omega) (by simp only [List.length_cons] at hl; simp; omega) ?_))
            intro ao1 cap1 w1 L1 hS1 hO1 _
            have hO7 := hO1.shuf [L1, [_], [_], [_], [_], [_], F] [4, 2, 3, 0, 1, 5, 6] rfl rfl
            have k0 : w1.cell? ⟨b, 1, none⟩ = some (.slice (some ⟨g, off, none⟩) (x :: r).length _) := cell_of_get hO7.head 1
            have k1 : w1.frozen? ⟨b, 1, none⟩ = false := free_of_get hO7.head 1
            have hh : w1.heap[w.heap.size + 1]? = some (.cells #[.bool true, .int .i64 0, .int .i64 0, .int .i64 0, .slice (some ⟨w.heap.size + 1 + 1, 0, none⟩) 1 1] 33 (0, 0)) := hO7.tail.head
            have c0 := cell_of_get hh 0
            have c1 := cell_of_get hh 1
            have c2 := cell_of_get hh 2
            have c3 := cell_of_get hh 3
            have c4 := cell_of_get hh 4
            have hh2 : w1.heap[w.heap.size]? = some (.cells #[.bool false, .int .i64 0, .int .i64 0, .int .i64 0, .slice none 0 0] 33 (0, 0)) := hO7.tail.tail.head
            have d0 := cell_of_get hh2 0
            have d1 := cell_of_get hh2 1
            have d2 := cell_of_get hh2 2
            have d3 := cell_of_get hh2 3
            have d4 := cell_of_get hh2 4
            have f0 := free_of_get hh2
            simp at c0 c1 c2 c3 c4 d0 d1 d2 d3 d4
            have hne1 : b ≠ w.heap.size := by omega
            have hne2 : b ≠ w.heap.size + 1 := by omega
            clear hO4 hO1 hh hh2 hO2 hg2 hM hO hO3 hc0 hc1 hf0 hf1 hx0
            go_wp2
            have hO9 := (((((hO7.setTo 1 (.slice ao1 r.length cap1) rfl).shuf [[_], [_], [_], L1, [_], [_], F] [2, 1, 5, 0, 3, 4, 6] rfl rfl).setTo 0 (.bool true) rfl).setTo 1 (.int .i64 0) rfl).setTo 2 (.int .i64 0) rfl).setTo 3 (.int .i64 0) rfl |>.setTo 4 (.slice (some ⟨w.heap.size + 1 + 1, 0, none⟩) 1 1) rfl
            have r := cell_of_get hO9.head
            have r0 := r 0
            have r1 := r 1
            have r2 := r 2
            have r3 := r 3
            have r4 := r 4
            clear r c0 c1 c2 c3 c4 d0 d1 d2 d3 d4 k0 k1
            refine bodyPost_ret (v := .tuple #[outV true 0 0 0 (.slice (some ⟨w.heap.size + 1 + 1, 0, none⟩) 1 1), .int .i64 0]) (by simp [results, Try.results67, go_sem, r0, r1, r2, r3, r4]) rfl (runlockPost_mk (Lk := [(w.heap.size + 1 + 1, Obj.cells #[.int .i64 x, .int .i64 0, .int .i64 0, .int .i64 0] 38 (0, 0))]) (L' := (b, Obj.cells #[.int .i64 x, .slice ao1 _ cap1] 87 (0, 0)) :: L1) _ HR rfl (.inr ⟨_, 0, 1, _, rfl, rfl, by simp, by simp [maxLen], by simp, by simp⟩) ⟨_, L1, rfl, fun y e => by cases e; exact hp x (by simp), hS1, by simp only [List.length_cons] at hl; show r.length ≤ 256; omega⟩ (by simpa [cat] using hO9.tail.tail.tail))
  · have HR := Lib.hid (show unlockR own ws who = ⟨false, 0, 1, own, ws, []⟩ by simp [unlockR, h1])
    have H1 := Lib.hid (badB_one h1)
    clear h1
    go_enter Try.func67, Try.ntmps67
    go_wp2_with (first | (go_at_call 102; refine (bad102 b own ws L who _ hM hg2).mono ?_; rintro e w' ⟨rfl, rfl⟩; rw [H1.out]))
    exact bodyPost_ret (v := .tuple #[outV false 0 0 0 (.slice none 0 0), .int .i64 1]) (by simp [results, Try.results67, go_sem]) rfl (runlockPost_mk _ HR rfl Sl.nil hM (hO.junk _))

def RDropPost (B : Nat) (w0 : World) (b : Nat) (F : List (Nat × Obj)) (own : Option Int) (r : Int × List Int) (e : Ending) (w' : World) : Prop :=
  e = .returned (.int .i64 r.1) ∧ ∃ L', Rx b own r.2 L' ∧ Own B w0 w' (L' ++ F)

set_option maxRecDepth 100000 in
set_option maxHeartbeats 2000000 in
theorem rdrop68 (B : Nat) (w0 : World) (b : Nat) (own : Option Int) (ws : List Int) (L F : List (Nat × Obj)) (who : Int) (w : World) (hM : Rx b own ws L) (hO : Own B w0 w (L ++ F)) :
    Calls Try.prog 68 #[.pointer (some ⟨b, 0, none⟩), .int .i64 who] w (RDropPost B w0 b F own (dropR ws who)) := by
  obtain ⟨i0, hinf, hz0, hz1, hz2⟩ := info_parts Try.info3
  have hM' := hM
  obtain ⟨v, Lv, rfl, hn, hs, hl⟩ := hM'
  have hO3 := hO
  simp only [List.cons_append] at hO3
  have hh := hO3.head
  have hc1 : w.cell? ⟨b, 1, none⟩ = some v := cell_of_get hh 1
  have hr := Lib.hid (Sl_rd (w := w) hs (fun p hp => hO3.get p (by simp [hp])))
  rcases idx_cases ws who with h1 | ⟨i, hi, h1⟩
  · have HR := Lib.hid (show dropR ws who = (6, ws) by simp [dropR, h1])
    have H1 := Lib.hid h1
    clear h1
    go_enter Try.func68, Try.ntmps68
    go_wp2_with (first | (go_at_call 103; refine (at103 ws who v _ (by omega) hr.out).mono ?_; rintro e w' ⟨rfl, rfl⟩; rw [H1.out]))
    go_ret
    rw [HR.out]
    exact ⟨rfl, _, hM, hO⟩
  · obtain ⟨zs, hz⟩ : ∃ zs, ws.take i ++ ws.drop (i + 1) = zs := ⟨_, rfl⟩
    have hzl : zs.length ≤ 256 := by rw [← hz]; simp; omega
    have HR := Lib.hid (show dropR ws who = (0, zs) by simp [dropR, h1, ← hz])
    have HZ := Lib.hid hz
    have HL := Lib.hid (show i + (ws.length - (i + 1)) = zs.length by rw [← hz]; simp; omega)
    clear hz
    have H1 := Lib.hid h1
    rcases hs with ⟨_, rfl, _⟩ | ⟨g, off, cap, cur, rfl, rfl, hcap, hcm, hsz, hcur⟩
    · simp at hi
    · have hs : Sl 3 1 I (.slice (some ⟨g, off, none⟩) ws.length cap) ws [(g, Obj.cells cur 3 (0, 0))] := .inr ⟨g, off, cap, cur, rfl, rfl, hcap, hcm, hsz, hcur⟩
      have hlt := lt_of_get hh
      have hf1 : w.frozen? ⟨b, 1, none⟩ = false := free_of_get hh 1
      have ht := hs.take I_len i (by omega)
      obtain ⟨off', hoff, hd'⟩ := hs.dropIf I_len (i + 1) (by omega) (cap = i + 1) id
      rw [Nat.mul_one] at hoff
      have HT := Lib.hid ht
      have HD := Lib.hid hd'
      have HCM := Lib.hid hcm
      have HOFF := Lib.hid hoff
      clear h1 hh hcm hsz hcur hs hoff ht hd'
      have hi0 : (0 : Int) ≤ i := by omega
      have hi1 : (i : Int) + 1 ≤ ws.length := by omega
      have hic : i ≤ cap := by omega
      go_enter Try.func68, Try.ntmps68
      go_wp2_with (first | (go_at_call 103; refine (at103 ws who _ _ (by omega) hr.out).mono ?_; rintro e w' ⟨rfl, rfl⟩; rw [H1.out]))
      have e1 : IntKind.i64.wrap ((i : Int) + 1) = (i : Int) + 1 := IntWalk.i64_in _ (by omega)
      have e2 : (0 : Int) ≤ (i : Int) + 1 := by omega
      have e3 : ((i : Int) + 1).toNat = i + 1 := by omega
      clear hM hO hr
      go_region_law (first | (refine step_append_all rfl (.const (.slice none 0 0)) (.tmp 20) 26 rfl _ _ _ Try.underlying26 hinf hz0 hz1 hz2 rfl I_len I_one rfl (Sl.nil (e := 3) (k := 1) (enc := I)) hO3.drew _ rfl (ws.take i) [(g, Obj.cells cur 3 (0, 0))] (by exact HT.out) (by simp) (by simp only [List.length_nil, List.length_take, maxLen]; omega) (by simp only [List.length_nil, List.length_take]; omega) i (by simp only [List.length_nil, List.length_take]; omega) ?_; intro ao1 cap1 w1 L1 hS1 hO1 hge1; have hh1 : w1.heap[b]? = some (Obj.cells #[.int .i64 (hasV own), .slice (some ⟨g, off, none⟩) ws.length cap] 87 (0, 0)) := hO1.get (b, _) (by simp); have k0 : w1.cell? ⟨b, 1, none⟩ = some (.slice (some ⟨g, off, none⟩) ws.length cap) := cell_of_get hh1 1; have HS1 := Lib.hid hS1; clear hS1 hh1) | (refine step_append_all rfl (.tmp 21) (.tmp 28) 26 rfl _ _ _ Try.underlying26 hinf hz0 hz1 hz2 rfl I_len I_one rfl (by exact HS1.out) hO1 _ rfl (ws.drop (i + 1)) [(g, Obj.cells cur 3 (0, 0))] (by rw [HOFF.out]; exact HD.out) (by simp) (by simp only [List.nil_append, List.length_drop, List.length_take, maxLen]; omega) (by simp only [List.nil_append, List.length_drop, List.length_take]; omega) zs.length (by rw [← HL.out]; simp only [List.nil_append, List.length_drop, List.length_take]; omega) ?_; intro ao2 cap2 w2 L2 hS2 hO2 hge2; rw [List.nil_append, HZ.out] at hS2; have hO4 := hO2.shuf [L2, [_], [_], F] [1, 0, 2, 3] rfl rfl; have k1 : w2.cell? ⟨b, 1, none⟩ = some (.slice (some ⟨g, off, none⟩) ws.length cap) := cell_of_get hO4.head 1; have k2 : w2.frozen? ⟨b, 1, none⟩ = false := free_of_get hO4.head 1))
      all_goals
        have hO5 := ((hO4.setTo 1 (.slice ao2 zs.length cap2) rfl).shuf [[_], L2, [_], F] [2, 0, 1, 3] rfl rfl).tail
        clear hO1 hO2 k0 k1 hO3 hO4
        rw [HOFF.out]
        go_wp2
        go_ret
        rw [HR.out]
        exact ⟨rfl, (b, Obj.cells #[.int .i64 (hasV own), .slice ao2 zs.length cap2] 87 (0, 0)) :: L2, ⟨_, L2, rfl, hn, hS2, hzl⟩, by simpa [cat] using hO5⟩

end Go.Proofs.Ytidnkienkdlmkaa
