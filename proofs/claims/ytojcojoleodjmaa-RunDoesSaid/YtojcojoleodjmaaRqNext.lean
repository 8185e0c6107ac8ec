/-
  Contract of Next. Conditions: 1 to 16 workers, at most 1,024 threads in a queue.
-/
import Derived.Test.YtojcojoleodjmaaRqSteal
namespace Go.Proofs.Ytojcojoleodjmaa
open Go.RowKit Go.Sh

theorem q_put' {B : Nat} {w0 w : World} {b n : Nat} {vs : Nat → Value} {Ls : Nat → List (Nat × Obj)} {st : Int} {F L : List (Nat × Obj)} {k : Nat} (hO : Own B w0 w (L ++ ((b, qobj n vs st) :: (rest 16 k Ls ++ F)))) (hk : k < 16) (v : Value) :
    Own B w0 (w.setCell ⟨b, 1 + k, none⟩ v) (qown b n (upd vs k v) (upd Ls k L) st ++ F) :=
  (((hO.perm List.perm_middle).setTo (1 + k) v (qcells_set n vs st hk v)).perm List.perm_middle.symm).perm (qown_shut b n vs Ls st F hk v L)

/-- The first of a worker's. -/
def popQ (ls : Nat → List Int) (st : Int) (k : Nat) : Int × Int × (Nat → List Int) × Int := match ls k with
  | x :: r => (x, 0, upd ls k r, st)
  | [] => (0, 6, ls, st)

def nextQ (n : Nat) (ls : Nat → List Int) (st : Int) (worker : Int) : Int × Int × (Nat → List Int) × Int :=
  if mayQ n worker = 1 then (0, 1, ls, st)
  else if ls worker.toNat = [] then match stealQ n ls st worker.toNat with
    | (false, _, _) => (0, 6, ls, st)
    | (true, ls', st') => popQ ls' st' worker.toNat
  else popQ ls st worker.toNat

def NextPost (B : Nat) (w0 : World) (b n : Nat) (F : List (Nat × Obj)) (r : Int × Int × (Nat → List Int) × Int) (e : Ending) (w' : World) : Prop :=
  e = .returned (.tuple #[.int .i64 r.1, .int .i64 r.2.1]) ∧ ∃ L', Qx b n r.2.2.1 r.2.2.2 L' ∧ Own B w0 w' (L' ++ F)

theorem stealQ_cases (n : Nat) (ls : Nat → List Int) (st : Int) (k : Nat) (hk : k < n) : (victimQ n ls k = none ∧ stealQ n ls st k = (false, ls, st)) ∨
    ∃ ls' st' x r, stealQ n ls st k = (true, ls', st') ∧ ls' k = x :: r := by
  unfold stealQ
  cases hv : victimQ n ls k with
  | none => exact .inl ⟨rfl, rfl⟩
  | some v =>
    obtain ⟨h1, h2, h3⟩ := victimQ_some hk hv
    have : (ls v).drop ((ls v).length / 2) ≠ [] := by
      intro h
      have := congrArg List.length h
      simp at this
      omega
    obtain ⟨x, r, hx⟩ := List.exists_cons_of_ne_nil this
    exact .inr ⟨_, _, x, r, rfl, by rw [upd_other (Ne.symm h3), upd_same, hx]⟩

set_option maxRecDepth 100000 in
set_option maxHeartbeats 4000000 in
theorem next_q (B : Nat) (w0 : World) (b n : Nat) (ls : Nat → List Int) (st : Int) (L F : List (Nat × Obj)) (worker : Int) (w : World) (hX : Qx b n ls st L) (hO : Own B w0 w (L ++ F)) :
    Calls Try.prog 16 #[.pointer (some ⟨b, 0, none⟩), .int .i64 worker] w (NextPost B w0 b n F (nextQ n ls st worker)) := by
  have hX' := hX
  obtain ⟨vs, Ls, hQ, rfl⟩ := hX'
  have hb := Lib.hid (q_get0 hO)
  have hpos := hQ.pos
  have htop := hQ.top
  rcases mayQ_cases n worker with h1 | ⟨h1, k, rfl, hk⟩
  · have HR := Lib.hid (show nextQ n ls st worker = (0, 1, ls, st) by simp [nextQ, h1])
    have H1 := Lib.hid h1
    clear h1
    go_enter Try.func16, Try.ntmps16
    go_wp2_with (go_at_call 45; refine (may_q b n vs st worker _ hb.out hpos).mono ?_; rintro e w' ⟨rfl, rfl⟩; rw [H1.out])
    refine bodyPost_ret (v := .tuple #[.int .i64 0, .int .i64 1]) (by simp [results, Try.results16, go_sem]) rfl ?_
    rw [HR.out]
    exact ⟨rfl, _, hX, hO⟩
  · have H1 := Lib.hid h1
    have hki : (k : Int) < 16 := by omega
    have hk16 : k < 16 := by omega
    have hs := hQ.sl k hk16
    obtain ⟨ao, cap, hv, _, _⟩ := hs.form
    have hcell : w.cell? ⟨b, 1 + k, none⟩ = some (.slice ao (ls k).length cap) := by rw [q_cell hb.out hk16, hv]
    cases hl : ls k with
    | nil =>
      have hz : (((ls k).length : Int) == 0) = true := by simp [hl]
      rcases stealQ_cases n ls st k hk with ⟨_, h3⟩ | ⟨ls', st', x, r, h3, h4⟩
      · have HR := Lib.hid (show nextQ n ls st k = (0, 6, ls, st) by unfold nextQ; rw [if_neg (by omega), Int.toNat_natCast, if_pos hl, h3])
        have H3 := Lib.hid h3
        clear h1 h3 hl hv hs
        go_enter Try.func16, Try.ntmps16
        go_wp2_with (first | (go_at_call 45; refine (may_q b n vs st k _ hb.out hpos).mono ?_; rintro e w' ⟨rfl, rfl⟩; rw [H1.out]) | (go_at_call 47; refine (steal_q B w0 b n ls st _ F k _ hk hX hO).mono ?_; rw [H3.out]; rintro e w1 ⟨rfl, L1, hX1, hO1⟩; dsimp only))
        refine bodyPost_ret (v := .tuple #[.int .i64 0, .int .i64 6]) (by simp [results, Try.results16, go_sem]) rfl ?_
        rw [HR.out]
        exact ⟨rfl, _, hX1, hO1⟩
      · have HR := Lib.hid (show nextQ n ls st k = (x, 0, upd ls' k r, st') by unfold nextQ; rw [if_neg (by omega), Int.toNat_natCast, if_pos hl, h3]; dsimp only; unfold popQ; rw [h4])
        have H3 := Lib.hid h3
        have H4 := Lib.hid h4
        clear h1 h3 hl hv hs h4
        go_enter Try.func16, Try.ntmps16
        go_wp2_with (go_at_call 45; refine (may_q b n vs st k _ hb.out hpos).mono ?_; rintro e w' ⟨rfl, rfl⟩; rw [H1.out])
        refine (steal_q B w0 b n ls st _ F k _ hk hX hO).mono ?_
        rw [H3.out]
        rintro e w1 ⟨rfl, L1, hX1, hO1⟩
        dsimp only at hX1 ⊢
        clear hcell
        obtain ⟨vs', Ls', hQ', rfl⟩ := hX1
        have hX1 : True := trivial
        have hb1 := q_get0 hO1
        have hs1 := hQ'.sl k hk16
        have hl1 := hQ'.len k hk16
        obtain ⟨g, off, cap1, hv1⟩ : ∃ g off cap1, vs' k = .slice (some ⟨g, off, none⟩) (ls' k).length cap1 := by
          rcases hs1 with ⟨_, he, _⟩ | ⟨g, off, cap1, cur, hvv, _⟩
          · rw [H4.out] at he; cases he
          · exact ⟨g, off, cap1, hvv⟩
        have hlen : 0 < (ls' k).length := by rw [H4.out]; simp
        have hleni : (0 : Int) < (ls' k).length := by omega
        have hc1 : w1.cell? ⟨b, 1 + k, none⟩ = some (.slice (some ⟨g, off, none⟩) (ls' k).length cap1) := by rw [q_cell hb1 hk16, hv1]
        have hx1 : w1.cell? ⟨g, off, none⟩ = some (.int .i64 x) := by
          have h := Sl.cells (hv1 ▸ hs1) (hO1.perm (qown_open b n vs' Ls' st' F hk16)) rfl 0 (.int .i64 x) (by rw [flatI, H4.out]; rfl)
          simpa [Addr.add] using h
        have hlt1 := lt_of_get hb1
        have hO2 := hO1.perm (qown_open b n vs' Ls' st' F hk16)
        rw [hv1] at hs1
        have HV1 := Lib.hid hv1
        have HQ' := Lib.hid hQ'
        have HS1 := Lib.hid hs1
        clear hb1 hv1 hQ hQ' hs1 hO1 hO
        go_wp2_with fail
        go_region_law (go_simp; go_at_call 48; refine (delete48 B w0 _ (ls' k) _ (Ls' k) 0 1 rfl _ HS1.out hO2.drew hlen).mono ?_; rintro e w2 ⟨v2, L2, rfl, hS2, hO3⟩; have hS2' : Sl 3 1 I v2 r L2 := (by rw [H4.out] at hS2; simpa using hS2); clear hS2; obtain ⟨ao2, cap2, rfl, _, _⟩ := hS2'.form; have k0 : w2.cell? ⟨b, 1 + k, none⟩ = some _ := (cell_of_get (hO3.get (b, qobj n vs' st') (List.mem_append_right _ List.mem_cons_self)) (1 + k)).trans (qcells_k n vs' st' hk16); have k1 := free_of_get (hO3.get (b, qobj n vs' st') (List.mem_append_right _ List.mem_cons_self)) (1 + k))
        all_goals
          have hO5 := q_put' hO3 hk16 (.slice ao2 r.length cap2)
          have hQ2 := HQ'.out.set (k := k) (v := .slice ao2 r.length cap2) (xs := r) hS2' (by have := congrArg List.length H4.out; simp at this; omega)
          clear hO3 k0 k1 hS2' hO2 hc1 hx1
          go_wp2
          refine bodyPost_ret (v := .tuple #[.int .i64 x, .int .i64 0]) (by simp [results, Try.results16, go_sem]) rfl ?_
          rw [HR.out]
          exact ⟨rfl, _, ⟨_, _, hQ2, rfl⟩, hO5⟩
    | cons x r =>
      have hz : (((ls k).length : Int) == 0) = false := by rw [hl]; simp; omega
      have HR := Lib.hid (show nextQ n ls st k = (x, 0, upd ls k r, st) by unfold nextQ; rw [if_neg (by omega), Int.toNat_natCast, if_neg (by rw [hl]; simp)]; unfold popQ; rw [hl])
      have H4 := Lib.hid hl
      clear h1 hl hv hs hX hcell
      go_enter Try.func16, Try.ntmps16
      have hO1 := hO
      have hQ' := hQ
      have hb1 := q_get0 hO1
      have hs1 := hQ'.sl k hk16
      have hl1 := hQ'.len k hk16
      obtain ⟨g, off, cap1, hv1⟩ : ∃ g off cap1, vs k = .slice (some ⟨g, off, none⟩) (ls k).length cap1 := by
        rcases hs1 with ⟨_, he, _⟩ | ⟨g, off, cap1, cur, hvv, _⟩
        · rw [H4.out] at he; cases he
        · exact ⟨g, off, cap1, hvv⟩
      have hlen : 0 < (ls k).length := by rw [H4.out]; simp
      have hleni : (0 : Int) < (ls k).length := by omega
      have hc1 : w.cell? ⟨b, 1 + k, none⟩ = some (.slice (some ⟨g, off, none⟩) (ls k).length cap1) := by rw [q_cell hb1 hk16, hv1]
      have hx1 : w.cell? ⟨g, off, none⟩ = some (.int .i64 x) := by
        have h := Sl.cells (hv1 ▸ hs1) (hO1.perm (qown_open b n vs Ls st F hk16)) rfl 0 (.int .i64 x) (by rw [flatI, H4.out]; rfl)
        simpa [Addr.add] using h
      have hlt1 := lt_of_get hb1
      have hO2 := hO1.perm (qown_open b n vs Ls st F hk16)
      rw [hv1] at hs1
      have HV1 := Lib.hid hv1
      have HQ' := Lib.hid hQ'
      have HS1 := Lib.hid hs1
      clear hb1 hv1 hQ hQ' hs1 hO1 hO
      go_wp2_with (go_at_call 45; refine (may_q b n vs st k _ hb.out hpos).mono ?_; rintro e w' ⟨rfl, rfl⟩; rw [H1.out])
      go_region_law (go_simp; go_at_call 48; refine (delete48 B w0 _ (ls k) _ (Ls k) 0 1 rfl _ HS1.out hO2.drew hlen).mono ?_; rintro e w2 ⟨v2, L2, rfl, hS2, hO3⟩; have hS2' : Sl 3 1 I v2 r L2 := (by rw [H4.out] at hS2; simpa using hS2); clear hS2; obtain ⟨ao2, cap2, rfl, _, _⟩ := hS2'.form; have k0 : w2.cell? ⟨b, 1 + k, none⟩ = some _ := (cell_of_get (hO3.get (b, qobj n vs st) (List.mem_append_right _ List.mem_cons_self)) (1 + k)).trans (qcells_k n vs st hk16); have k1 := free_of_get (hO3.get (b, qobj n vs st) (List.mem_append_right _ List.mem_cons_self)) (1 + k))
      all_goals
        have hO5 := q_put' hO3 hk16 (.slice ao2 r.length cap2)
        have hQ2 := HQ'.out.set (k := k) (v := .slice ao2 r.length cap2) (xs := r) hS2' (by have := congrArg List.length H4.out; simp at this; omega)
        clear hO3 k0 k1 hS2' hO2 hc1 hx1
        go_wp2
        refine bodyPost_ret (v := .tuple #[.int .i64 x, .int .i64 0]) (by simp [results, Try.results16, go_sem]) rfl ?_
        rw [HR.out]
        exact ⟨rfl, _, ⟨_, _, hQ2, rfl⟩, hO5⟩

end Go.Proofs.Ytojcojoleodjmaa
