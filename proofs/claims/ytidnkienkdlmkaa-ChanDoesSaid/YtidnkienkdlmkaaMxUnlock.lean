/-
  Contract of Unlock. Condition: at most 256 threads wait.
-/
import Derived.Test.YtidnkienkdlmkaaMxLock
import Derived.BigRegion
namespace Go.Proofs.Ytidnkienkdlmkaa
open Go.RowKit Go.Sh

/-- A Wake, as data, and as cells. -/
structure Wk where
  who : Int
  t : Int
  n : Int
  f : Int

abbrev W4 (x : Wk) : List Value := [.int .i64 x.who, .int .i64 x.t, .int .i64 x.n, .int .i64 x.f]

structure UkR where
  done : Bool
  fault : Int
  err : Int
  own : Option Int
  ws : List Int
  wakes : List Wk

def unlockR (own : Option Int) (ws : List Int) (who : Int) : UkR :=
  if mayR ws who ≠ 0 then ⟨false, 0, mayR ws who, own, ws, []⟩
  else if hasB own who = false then ⟨false, 10, 0, own, ws, []⟩
  else match ws with
    | [] => ⟨true, 0, 0, none, [], []⟩
    | x :: r => ⟨true, 0, 0, some x, r, [⟨x, 0, 0, 0⟩]⟩

def UnlockPost (B : Nat) (w0 : World) (b : Nat) (F : List (Nat × Obj)) (r : UkR) (e : Ending) (w' : World) : Prop :=
  ∃ wk Lk L', e = .returned (.tuple #[outV r.done 0 0 r.fault wk, .int .i64 r.err]) ∧ Sl 38 4 W4 wk r.wakes Lk ∧ Mx b r.own r.ws L' ∧ Own B w0 w' (L' ++ (Lk ++ F))

theorem unlockPost_mk {B : Nat} {w0 : World} {b : Nat} {F L' Lk : List (Nat × Obj)} {r r' : UkR} {e : Ending} {w' : World} (wk : Value) (HR : Hid (r = r')) (he : e = .returned (.tuple #[outV r'.done 0 0 r'.fault wk, .int .i64 r'.err]))
    (hk : Sl 38 4 W4 wk r'.wakes Lk) (hM : Mx b r'.own r'.ws L') (hO : Own B w0 w' (L' ++ (Lk ++ F))) : UnlockPost B w0 b F r e w' := by
  rw [HR.out]
  exact ⟨wk, Lk, L', he, hk, hM, hO⟩

theorem List.drop_take_succ_tail {α : Type} (l : List α) (n : Nat) : (List.take (n + 1) l).tail = List.take n (List.drop 1 l) := by
  cases l <;> simp

theorem hasB_true {own : Option Int} {who : Int} (h : hasB own who = true) : own = some who := by simpa [hasB] using h

set_option maxRecDepth 100000 in
set_option maxHeartbeats 2000000 in
theorem unlock_any (B : Nat) (w0 : World) (b : Nat) (own : Option Int) (ws : List Int) (L F : List (Nat × Obj)) (who : Int) (w : World) (hM : Mx b own ws L) (hO : Own B w0 w (L ++ F)) :
    Calls Try.prog 18 #[.pointer (some ⟨b, 0, none⟩), .int .i64 who] w (UnlockPost B w0 b F (unlockR own ws who)) := by
  have hO2 := hO.junk (.cells #[.bool false, .int .i64 0, .int .i64 0, .int .i64 0, .slice none 0 0] 33)
  have hg2 : ∀ p ∈ L, _ := fun p hp => hO2.get p (List.mem_append_left _ hp)
  rcases mayR_cases ws who with h1 | h1
  · have H1 := Lib.hid h1
    cases h2 : hasB own who with
    | false =>
      have HR := Lib.hid (show unlockR own ws who = ⟨false, 10, 0, own, ws, []⟩ by simp [unlockR, h1, h2])
      have H2 := Lib.hid h2
      clear h1 h2
      go_enter Try.func18, Try.ntmps18
      go_wp2_with (first | (go_at_call 61; refine (may_any b own ws L who _ hM hg2).mono ?_; rintro e w' ⟨rfl, rfl⟩; rw [H1.out]) | (go_at_call 62; refine (has_any b own ws L who _ hM hg2).mono ?_; rintro e w' ⟨rfl, rfl⟩; rw [H2.out]))
      exact bodyPost_ret (v := .tuple #[outV false 0 0 10 (.slice none 0 0), .int .i64 0]) (by simp [results, Try.results18, go_sem]) rfl (unlockPost_mk _ HR rfl Sl.nil hM (hO.junk _))
    | true =>
      have H2 := Lib.hid h2
      obtain rfl := hasB_true h2
      have hM' := hM
      obtain ⟨o, v, Lo, Lv, rfl, hb, hs, hl⟩ := hM'
      rcases hb with ⟨rfl, h, rfl⟩ | ⟨bo, x, rfl, h, rfl⟩
      · cases h
      · simp only [Option.some.injEq] at h
        subst h
        have hO3 := hO
        simp only [List.cons_append, List.nil_append] at hO3
        have hc1 : w.cell? ⟨b, 1, none⟩ = some (.pointer (some ⟨bo, 0, none⟩)) := cell_of_get hO3.head 1
        have hc2 : w.cell? ⟨b, 2, none⟩ = some v := cell_of_get hO3.head 2
        have hf1 : w.frozen? ⟨b, 1, none⟩ = false := free_of_get hO3.head 1
        have hf2 : w.frozen? ⟨b, 2, none⟩ = false := free_of_get hO3.head 2
        have hlt := lt_of_get hO3.head
        cases ws with
        | nil =>
          have HR := Lib.hid (show unlockR (some who) [] who = ⟨true, 0, 0, none, [], []⟩ by simp [unlockR, h1, h2])
          obtain ⟨ao, cap, rfl, hcap, hcm⟩ := hs.form
          have HCM := Lib.hid hcm
          clear h1 h2 hcm
          go_enter Try.func18, Try.ntmps18
          go_wp2_with (first | (go_at_call 61; refine (may_any b _ _ _ who _ hM hg2).mono ?_; rintro e w' ⟨rfl, rfl⟩; rw [H1.out]) | (go_at_call 62; refine (has_any b _ _ _ who _ hM hg2).mono ?_; rintro e w' ⟨rfl, rfl⟩; rw [H2.out]))
          have hO4 := ((hO3.setTo 1 (.pointer none) rfl).junk (.cells #[.bool true, .int .i64 0, .int .i64 0, .int .i64 0, .slice none 0 0] 33)).junk (.cells #[.bool true, .int .i64 0, .int .i64 0, .int .i64 0, .slice none 0 0] 33)
          refine bodyPost_ret (v := .tuple #[outV true 0 0 0 (.slice none 0 0), .int .i64 0]) (by simp [results, Try.results18, go_sem]) rfl (unlockPost_mk (L' := (b, Obj.cells #[.bool true, .pointer none, .slice ao 0 cap] 48 (0, 0)) :: ([] ++ Lv)) _ HR rfl Sl.nil ?_ (by simpa [cat] using (hO4.shuf [[_], [_], Lv, F] [1, 0, 2, 3] rfl rfl).tail))
          exact ⟨_, _, [], Lv, rfl, .inl ⟨rfl, rfl, rfl⟩, hs, by simp⟩
        | cons x r =>
          have HR := Lib.hid (show unlockR (some who) (x :: r) who = ⟨true, 0, 0, some x, r, [⟨x, 0, 0, 0⟩]⟩ by simp [unlockR, h1, h2])
          rcases hs with ⟨_, h, _⟩ | ⟨g, off, cap, cur, rfl, rfl, hcap, hcm, hsz, hcur⟩
          · cases h
          · have hgb : w.heap[g]? = some (.cells cur 3 (0, 0)) := hO3.get (g, .cells cur 3 (0, 0)) (by simp)
            have hlg := lt_of_get hgb
            have hx0 : w.cell? ⟨g, off, none⟩ = some (.int .i64 x) := by
              rw [cell_of_get hgb]
              have : (List.take ((x :: r).length * 1) (List.drop off cur.toList))[0]? = some (.int .i64 x) := by rw [hcur]; rfl
              simpa [List.getElem?_take] using this
            have HCM := Lib.hid hcm
            have HCUR := Lib.hid hcur
            have HSZ := Lib.hid hsz
            obtain ⟨off', hoff, hS'⟩ : ∃ off', (if r = [] then some (⟨g, off, none⟩ : Addr) else some ⟨g, off + 1, none⟩) = some ⟨g, off', none⟩ ∧ Sl 3 1 I (.slice (some ⟨g, off', none⟩) r.length r.length) r [(g, .cells cur 3 (0, 0))] := by
              have hcl : (x :: r).length ≤ cap := hcap
              simp only [List.length_cons] at hcl
              by_cases hr : r = []
              · subst hr
                exact ⟨off, by simp, .inr ⟨g, off, 0, cur, rfl, rfl, by simp, by simp, by simp; omega, by simp⟩⟩
              · refine ⟨off + 1, by simp [hr], .inr ⟨g, off + 1, r.length, cur, rfl, rfl, Nat.le_refl _, by unfold maxLen; simp only [List.length_cons] at hl; omega, by omega, ?_⟩⟩
                simp only [Nat.mul_one, List.length_cons, List.flatMap_cons] at hcur ⊢
                rw [← List.drop_drop, ← List.drop_take_succ_tail, hcur]
                rfl
            have HS' := Lib.hid hS'
            have HOFF := Lib.hid hoff
            clear hoff hS'
            have hcap' : r.length + 1 ≤ cap := hcap
            have hlt1 : b < w.heap.size + 1 := by omega
            have hlt2 : b < w.heap.size + 1 + 1 := by omega
            have hn1 : (0 : Int) < (r.length : Int) + 1 := by omega
            have hne : b ≠ g := by
              have hnd := hO3.nodup
              simp only [List.map_cons, List.cons_append, List.nil_append, List.nodup_cons, List.mem_cons, not_or] at hnd
              exact hnd.1.2.1
            have hne' : g ≠ b := fun e => hne e.symm
            clear h1 h2 hcm hcur hgb hsz
            go_enter Try.func18, Try.ntmps18
            go_wp2_with (first | (go_at_call 61; refine (may_any b _ _ _ who _ hM hg2).mono ?_; rintro e w' ⟨rfl, rfl⟩; rw [H1.out]) | (go_at_call 62; refine (has_any b _ _ _ who _ hM hg2).mono ?_; rintro e w' ⟨rfl, rfl⟩; rw [H2.out]))
            go_region
            rw [HOFF.out]
            go_wp2
            have hO4 := ((((((((hO3.setTo 1 (.pointer none) rfl).setTo 1 (.pointer (some ⟨w.heap.size + 1 + 1, 0, none⟩)) rfl).setTo 2 (.slice (some ⟨g, off', none⟩) r.length r.length) rfl).junk (.cells #[.bool true, .int .i64 0, .int .i64 0, .int .i64 0, .slice (some ⟨w.heap.size + 1 + 1 + 1, 0, none⟩) 1 1] 33)).junk (.cells #[.bool true, .int .i64 0, .int .i64 0, .int .i64 0, .slice (some ⟨w.heap.size + 1 + 1 + 1, 0, none⟩) 1 1] 33)).allocAt (.cells #[.int .i64 x] 3) (n := w.heap.size + 1 + 1) (by simp)).allocAt (.cells #[.int .i64 x, .int .i64 0, .int .i64 0, .int .i64 0] 38) (n := w.heap.size + 1 + 1 + 1) (by simp)).drew).shuf [[_], [_], [_], [_], [_], F] [3, 2, 1, 4, 0, 5] rfl rfl
            refine bodyPost_ret (v := .tuple #[outV true 0 0 0 (.slice (some ⟨w.heap.size + 1 + 1 + 1, 0, none⟩) 1 1), .int .i64 0]) (by simp [results, Try.results18, go_sem]) rfl (unlockPost_mk (Lk := [(w.heap.size + 1 + 1 + 1, Obj.cells #[.int .i64 x, .int .i64 0, .int .i64 0, .int .i64 0] 38 (0, 0))]) (L' := (b, Obj.cells #[.bool true, .pointer (some ⟨w.heap.size + 1 + 1, 0, none⟩), .slice (some ⟨g, off', none⟩) r.length r.length] 48 (0, 0)) :: ([(w.heap.size + 1 + 1, Obj.cells #[.int .i64 x] 3 (0, 0))] ++ [(g, Obj.cells cur 3 (0, 0))])) _ HR rfl ?_ ?_ (by simpa [cat] using hO4.tail))
            · exact .inr ⟨_, 0, 1, _, rfl, rfl, by simp, by simp [maxLen], by simp, by simp⟩
            · exact ⟨_, _, [(w.heap.size + 1 + 1, Obj.cells #[.int .i64 x] 3 (0, 0))], [(g, Obj.cells cur 3 (0, 0))], rfl, .inr ⟨_, _, rfl, rfl, rfl⟩, HS'.out, by simp only [List.length_cons] at hl; show r.length ≤ 256; omega⟩
  · have HR := Lib.hid (show unlockR own ws who = ⟨false, 0, 1, own, ws, []⟩ by simp [unlockR, h1])
    have H1 := Lib.hid h1
    clear h1
    go_enter Try.func18, Try.ntmps18
    go_wp2_with (first | (go_at_call 61; refine (may_any b own ws L who _ hM hg2).mono ?_; rintro e w' ⟨rfl, rfl⟩; rw [H1.out]))
    exact bodyPost_ret (v := .tuple #[outV false 0 0 0 (.slice none 0 0), .int .i64 1]) (by simp [results, Try.results18, go_sem]) rfl (unlockPost_mk _ HR rfl Sl.nil hM (hO.junk _))

end Go.Proofs.Ytidnkienkdlmkaa
