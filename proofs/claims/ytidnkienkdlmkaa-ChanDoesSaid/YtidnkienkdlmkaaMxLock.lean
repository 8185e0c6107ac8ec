/-
  Contracts of has, Owner, Lock. Condition: at most 256 threads wait.
-/
import Derived.Test.YtidnkienkdlmkaaMxA
namespace Go.Proofs.Ytidnkienkdlmkaa
open Go.RowKit Go.Sh

def hasB (own : Option Int) (who : Int) : Bool := own == some who

theorem has_any (b : Nat) (own : Option Int) (ws : List Int) (L : List (Nat × Obj)) (who : Int) (w : World) (hM : Mx b own ws L) (hg : ∀ p ∈ L, w.heap[p.1]? = some p.2) :
    Calls Try.prog 62 #[.pointer (some ⟨b, 0, none⟩), .int .i64 who] w fun e w' => e = .returned (.bool (hasB own who)) ∧ w = w' := by
  obtain ⟨o, v, Lo, Lv, rfl, hb, hs, hl⟩ := hM
  have hc1 : w.cell? ⟨b, 1, none⟩ = some (.pointer o) := cell_of_get (hg _ (List.mem_cons_self)) 1
  rcases hb with ⟨rfl, rfl, rfl⟩ | ⟨bo, x, rfl, rfl, rfl⟩
  · clear hg
    go_enter Try.func62, Try.ntmps62
    go_wp2
    go_ret
    exact ⟨rfl, rfl⟩
  · have hcx : w.cell? ⟨bo, 0, none⟩ = some (.int .i64 x) := cell_of_get (hg (bo, .cells #[.int .i64 x] 3 (0, 0)) (by simp)) 0
    clear hg hs
    have HR := Lib.hid (show hasB (some x) who = (x == who) by simp [hasB])
    go_enter Try.func62, Try.ntmps62
    go_wp2
    go_ret
    exact ⟨by rw [HR.out]; rfl, rfl⟩

/-- What Lock comes to. -/
structure LkR where
  done : Bool
  fault : Int
  err : Int
  own : Option Int
  ws : List Int

def lockR (own : Option Int) (ws : List Int) (who : Int) : LkR :=
  if mayR ws who ≠ 0 then ⟨false, 0, mayR ws who, own, ws⟩
  else if hasB own who = true then ⟨false, 10, 0, own, ws⟩
  else if own = none then ⟨true, 0, 0, some who, ws⟩
  else if 256 ≤ ws.length then ⟨false, 0, 7, own, ws⟩
  else ⟨false, 0, 0, own, ws ++ [who]⟩

abbrev outV (d : Bool) (t n f : Int) (wk : Value) : Value := .agg #[.bool d, .int .i64 t, .int .i64 n, .int .i64 f, wk]

def LockPost (B : Nat) (w0 : World) (b : Nat) (F : List (Nat × Obj)) (r : LkR) (e : Ending) (w' : World) : Prop :=
  e = .returned (.tuple #[outV r.done 0 0 r.fault (.slice none 0 0), .int .i64 r.err]) ∧ ∃ L', Mx b r.own r.ws L' ∧ Own B w0 w' (L' ++ F)


theorem mayR_cases (ws : List Int) (who : Int) : mayR ws who = 0 ∨ mayR ws who = 1 := by
  unfold mayR; split <;> (try split) <;> (try split) <;> simp

theorem lockPost_mk {B : Nat} {w0 : World} {b : Nat} {F L' : List (Nat × Obj)} {r r' : LkR} {e : Ending} {w' : World} (HR : Hid (r = r')) (he : e = .returned (.tuple #[outV r'.done 0 0 r'.fault (.slice none 0 0), .int .i64 r'.err]))
    (hM : Mx b r'.own r'.ws L') (hO : Own B w0 w' (L' ++ F)) : LockPost B w0 b F r e w' := by
  rw [HR.out]
  exact ⟨he, L', hM, hO⟩

set_option maxRecDepth 100000 in
set_option maxHeartbeats 1000000 in
theorem lock_any (B : Nat) (w0 : World) (b : Nat) (own : Option Int) (ws : List Int) (L F : List (Nat × Obj)) (who : Int) (w : World) (hM : Mx b own ws L) (hO : Own B w0 w (L ++ F)) :
    Calls Try.prog 17 #[.pointer (some ⟨b, 0, none⟩), .int .i64 who] w (LockPost B w0 b F (lockR own ws who)) := by
  obtain ⟨i0, hi, hz0, hz1, hz2⟩ := info_parts Try.info3
  have hO2 := (hO.junk (.cells #[.int .i64 who] 3)).junk (.cells #[.bool false, .int .i64 0, .int .i64 0, .int .i64 0, .slice none 0 0] 33)
  have hg2 : ∀ p ∈ L, _ := fun p hp => hO2.get p (List.mem_append_left _ hp)
  rcases mayR_cases ws who with h1 | h1
  · have H1 := Lib.hid h1
    cases h2 : hasB own who with
    | true =>
      have HR := Lib.hid (show lockR own ws who = ⟨false, 10, 0, own, ws⟩ by simp [lockR, h1, h2])
      have H2 := Lib.hid h2
      clear h1 h2
      go_enter Try.func17, Try.ntmps17
      go_wp2_with (first | (go_at_call 61; refine (may_any b own ws L who _ hM hg2).mono ?_; rintro e w' ⟨rfl, rfl⟩; rw [H1.out]) | (go_at_call 62; refine (has_any b own ws L who _ hM hg2).mono ?_; rintro e w' ⟨rfl, rfl⟩; rw [H2.out]))
      exact bodyPost_ret (v := .tuple #[outV false 0 0 10 (.slice none 0 0), .int .i64 0]) (by simp [results, Try.results17, go_sem]) rfl (lockPost_mk HR rfl hM ((hO.junk _).junk _))
    | false =>
      have H2 := Lib.hid h2
      have hM' := hM
      obtain ⟨o, v, Lo, Lv, rfl, hb, hs, hl⟩ := hM'
      rcases hb with ⟨rfl, rfl, rfl⟩ | ⟨bo, x, rfl, rfl, rfl⟩
      · have HR := Lib.hid (show lockR none ws who = ⟨true, 0, 0, some who, ws⟩ by simp [lockR, h1, h2])
        have hO3 := hO
        simp only [List.cons_append, List.nil_append] at hO3
        have hc1 : w.cell? ⟨b, 1, none⟩ = some (.pointer none) := cell_of_get hO3.head 1
        have hf1 : w.frozen? ⟨b, 1, none⟩ = false := free_of_get hO3.head 1
        have hlt := lt_of_get hO3.head
        clear h1 h2
        go_enter Try.func17, Try.ntmps17
        go_wp2_with (first | (go_at_call 61; refine (may_any b none ws _ who _ hM hg2).mono ?_; rintro e w' ⟨rfl, rfl⟩; rw [H1.out]) | (go_at_call 62; refine (has_any b none ws _ who _ hM hg2).mono ?_; rintro e w' ⟨rfl, rfl⟩; rw [H2.out]))
        have hO4 := ((hO3.setTo 1 (.pointer (some ⟨w.heap.size, 0, none⟩)) rfl).allocAt (.cells #[.int .i64 who] 3) (n := w.heap.size) (by simp)).junk (.cells #[.bool true, .int .i64 0, .int .i64 0, .int .i64 0, .slice none 0 0] 33)
        refine bodyPost_ret (v := .tuple #[outV true 0 0 0 (.slice none 0 0), .int .i64 0]) (by simp [results, Try.results17, go_sem]) rfl (lockPost_mk (L' := (b, .cells #[.bool true, .pointer (some ⟨w.heap.size, 0, none⟩), v] 48) :: ([(w.heap.size, .cells #[.int .i64 who] 3)] ++ Lv)) HR rfl ?_ (hO4.perm (List.Perm.swap _ _ _)))
        exact ⟨_, _, _, _, rfl, .inr ⟨_, _, rfl, rfl, rfl⟩, hs, hl⟩
      · have hO3 := hO
        simp only [List.cons_append, List.nil_append] at hO3
        have hc1 : w.cell? ⟨b, 1, none⟩ = some (.pointer (some ⟨bo, 0, none⟩)) := cell_of_get hO3.head 1
        have hc2 : w.cell? ⟨b, 2, none⟩ = some v := cell_of_get hO3.head 2
        have hf2 : w.frozen? ⟨b, 2, none⟩ = false := free_of_get hO3.head 2
        have hlt := lt_of_get hO3.head
        obtain ⟨ao, cap, rfl, hcap, hcm⟩ := hs.form
        have HCM := Lib.hid hcm
        clear hcm
        by_cases h3 : 256 ≤ ws.length
        · have HR := Lib.hid (show lockR (some x) ws who = ⟨false, 0, 7, some x, ws⟩ by simp [lockR, h1, h2, h3])
          clear h1 h2
          go_enter Try.func17, Try.ntmps17
          go_wp2_with (first | (go_at_call 61; refine (may_any b (some x) ws _ who _ hM hg2).mono ?_; rintro e w' ⟨rfl, rfl⟩; rw [H1.out]) | (go_at_call 62; refine (has_any b (some x) ws _ who _ hM hg2).mono ?_; rintro e w' ⟨rfl, rfl⟩; rw [H2.out]))
          exact bodyPost_ret (v := .tuple #[outV false 0 0 0 (.slice none 0 0), .int .i64 7]) (by simp [results, Try.results17, go_sem]) rfl (lockPost_mk HR rfl hM ((hO.junk _).junk _))
        · have HR := Lib.hid (show lockR (some x) ws who = ⟨false, 0, 0, some x, ws ++ [who]⟩ by simp [lockR, h1, h2, h3])
          clear h1 h2
          go_enter Try.func17, Try.ntmps17
          go_wp2_with (first | (go_at_call 61; refine (may_any b (some x) ws _ who _ hM hg2).mono ?_; rintro e w' ⟨rfl, rfl⟩; rw [H1.out]) | (go_at_call 62; refine (has_any b (some x) ws _ who _ hM hg2).mono ?_; rintro e w' ⟨rfl, rfl⟩; rw [H2.out]))
          have hO6 : Own B w0 (((w.alloc (.cells #[.int .i64 who] 3)).alloc (.cells #[.bool false, .int .i64 0, .int .i64 0, .int .i64 0, .slice none 0 0] 33)))
              (Lv ++ ((b, .cells #[.bool true, .pointer (some ⟨bo, 0, none⟩), .slice ao ws.length cap] 48) :: (w.heap.size + 1, .cells #[.bool false, .int .i64 0, .int .i64 0, .int .i64 0, .slice none 0 0] 33) :: (bo, .cells #[.int .i64 x] 3 (0, 0)) :: F)) :=
            ((hO3.junk _).allocAt _ (n := w.heap.size + 1) (by simp)).shuf [[_], [_], [_], Lv, F] [3, 1, 0, 2, 4] rfl rfl
          clear hO2 hg2 hM hO hO3
          have hlt1 : b < w.heap.size + 1 := by omega
          have hlt2 : b < w.heap.size + 1 + 1 := by omega
          go_region_law (refine step_append_sl rfl (.tmp 41) (.tmp 43) 26 rfl _ _ _ Try.underlying26 hi hz0 hz1 hz2 rfl (fun _ => rfl) (fun _ _ h => by simp at h; subst h; rfl) rfl hs (by first | exact (hO6.junk _).drew | exact hO6.drew.junk _) ⟨w.heap.size + 1 + 1, 0, none⟩ [who] 1 1 rfl rfl (news_one (x := .int .i64 who) (by simp [World.cell?_alloc_at])) (by decide) (by unfold maxLen; omega) (by omega) ?_; intro g off cap' w1 L1 hS1 hO1 hgl1 hge1; have hO7 := hO1.shuf [L1, [_], [_], [_], F] [1, 2, 3, 0, 4] rfl rfl; have k0 := cell_of_get hO7.head 2; have k1 := free_of_get hO7.head 2; simp only [List.getElem?_toArray] at k0)
          all_goals
            have hO8 := hO7.shuf [[_], [_], [_], L1, F] [1, 0, 2, 3, 4] rfl rfl
            have hh := hO8.head
            have c0 := cell_of_get hh 0
            have c1 := cell_of_get hh 1
            have c2 := cell_of_get hh 2
            have c3 := cell_of_get hh 3
            have c4 := cell_of_get hh 4
            have f0 := free_of_get hh
            simp at c0 c1 c2 c3 c4
            have hne : b ≠ w.heap.size + 1 := by omega
            clear hO6 hO1 hh
            go_wp2
            have hO9 := (((((hO7.setTo 2 (.slice (some ⟨g, off, none⟩) (ws.length + 1) cap') rfl).shuf [[_], [_], [_], L1, F] [1, 0, 2, 3, 4] rfl rfl).setTo 0 (.bool false) rfl).setTo 1 (.int .i64 0) rfl).setTo 2 (.int .i64 0) rfl).setTo 3 (.int .i64 0) rfl |>.setTo 4 (.slice none 0 0) rfl
            have r := cell_of_get hO9.head
            have r0 := r 0
            have r1 := r 1
            have r2 := r 2
            have r3 := r 3
            have r4 := r 4
            clear r c0 c1 c2 c3 c4 k0 k1
            refine bodyPost_ret (v := .tuple #[outV false 0 0 0 (.slice none 0 0), .int .i64 0]) (by simp [results, Try.results17, go_sem, r0, r1, r2, r3, r4]) rfl (lockPost_mk (L' := (b, .cells #[.bool true, .pointer (some ⟨bo, 0, none⟩), .slice (some ⟨g, off, none⟩) (ws.length + 1) cap'] 48) :: ([(bo, Obj.cells #[.int .i64 x] 3 (0, 0))] ++ L1)) HR rfl ?_ hO9.tail)
            exact ⟨_, _, [(bo, .cells #[.int .i64 x] 3)], L1, rfl, .inr ⟨_, _, rfl, rfl, rfl⟩, hS1, by simp; omega⟩
  · have HR := Lib.hid (show lockR own ws who = ⟨false, 0, 1, own, ws⟩ by simp [lockR, h1])
    have H1 := Lib.hid h1
    clear h1
    go_enter Try.func17, Try.ntmps17
    go_wp2_with (first | (go_at_call 61; refine (may_any b own ws L who _ hM hg2).mono ?_; rintro e w' ⟨rfl, rfl⟩; rw [H1.out]))
    exact bodyPost_ret (v := .tuple #[outV false 0 0 0 (.slice none 0 0), .int .i64 1]) (by simp [results, Try.results17, go_sem]) rfl (lockPost_mk HR rfl hM ((hO.junk _).junk _))

end Go.Proofs.Ytidnkienkdlmkaa
