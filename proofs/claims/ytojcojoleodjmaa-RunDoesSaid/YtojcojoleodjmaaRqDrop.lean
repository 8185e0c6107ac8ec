/-
  Contracts of Drop, Len, Stolen. Conditions: 1 to 16 workers, at most 1,024 threads in a queue.
-/
import Derived.Test.YtojcojoleodjmaaRqNext
namespace Go.Proofs.Ytojcojoleodjmaa
open Go.RowKit Go.Sh

def dropQ (n : Nat) (ls : Nat → List Int) (who : Int) : Int × (Nat → List Int) := match findQ n ls who with
  | none => (6, ls)
  | some k => (0, upd ls k ((ls k).take (idx (ls k) who).toNat ++ (ls k).drop ((idx (ls k) who).toNat + 1)))

set_option maxRecDepth 100000 in
set_option maxHeartbeats 4000000 in
theorem drop_q (B : Nat) (w0 : World) (b n : Nat) (ls : Nat → List Int) (st : Int) (L F : List (Nat × Obj)) (who : Int) (w : World) (hX : Qx b n ls st L) (hO : Own B w0 w (L ++ F)) :
    Calls Try.prog 17 #[.pointer (some ⟨b, 0, none⟩), .int .i64 who] w (PushPost B w0 b n F st (dropQ n ls who)) := by
  have hX' := hX
  obtain ⟨vs, Ls, hQ, rfl⟩ := hX'
  have hL := Lib.hid (show ∀ p ∈ qown b n vs Ls st, w.heap[p.1]? = some p.2 from fun p hp => hO.get p (List.mem_append_left _ hp))
  have hb := Lib.hid (q_get0 hO)
  have hpos := hQ.pos
  have htop := hQ.top
  have HQ := Lib.hid hQ
  rcases findV_cases n ls who with ⟨h3, h4⟩ | ⟨k, i, hk, hi, h3, h5, h4⟩
  · have HR := Lib.hid (show dropQ n ls who = (6, ls) by unfold dropQ; rw [h3])
    have H4 := Lib.hid h4
    clear h3 h4 hQ
    go_enter Try.func17, Try.ntmps17
    go_wp2_with (first | (go_at_call 49; refine (none_q b n vs st _ hb.out hpos).mono ?_; rintro e w' ⟨rfl, rfl⟩) | (go_at_call 46; refine (find_q b n vs Ls ls st who _ HQ.out hL.out).mono ?_; rintro e w' ⟨rfl, rfl⟩; rw [H4.out]))
    go_ret
    rw [HR.out]
    exact ⟨rfl, _, hX, hO⟩
  · have HR := Lib.hid (show dropQ n ls who = (0, upd ls k ((ls k).take i ++ (ls k).drop (i + 1))) by unfold dropQ; rw [h3]; dsimp only; rw [h5]; rfl)
    have H4 := Lib.hid h4
    have hk16 : k < 16 := by omega
    have hki : (k : Int) < 16 := by omega
    have hl1 := hQ.len k hk16
    have hs := hQ.sl k hk16
    obtain ⟨ao, cap, hv, _, _⟩ := hs.form
    have hc1 : w.cell? ⟨b, 1 + k, none⟩ = some (.slice ao (ls k).length cap) := by rw [q_cell hb.out hk16, hv]
    have hO2 := hO.perm (qown_open b n vs Ls st F hk16)
    rw [hv] at hs
    have HS := Lib.hid hs
    have hlt := lt_of_get hb.out
    clear h3 h4 h5 hv hs hQ hX hO
    go_enter Try.func17, Try.ntmps17
    go_wp2_with (first | (go_at_call 49; refine (none_q b n vs st _ hb.out hpos).mono ?_; rintro e w' ⟨rfl, rfl⟩) | (go_at_call 46; refine (find_q b n vs Ls ls st who _ HQ.out hL.out).mono ?_; rintro e w' ⟨rfl, rfl⟩; rw [H4.out]))
    have e1 : IntKind.i64.wrap ((i : Int) + 1) = (i : Int) + 1 := IntWalk.i64_in _ (by omega)
    go_region_law (go_simp; go_at_call 48; refine (delete48 B w0 _ (ls k) _ (Ls k) i _ rfl _ HS.out hO2.drew hi).mono ?_; rintro e w2 ⟨v2, L2, rfl, hS2, hO3⟩; obtain ⟨r, hr⟩ : ∃ r, (ls k).take i ++ (ls k).drop (i + 1) = r := ⟨_, rfl⟩; have HRR := Lib.hid hr; rw [hr] at hS2; clear hr; obtain ⟨ao2, cap2, rfl, _, _⟩ := hS2.form; have k0 : w2.cell? ⟨b, 1 + k, none⟩ = some _ := (cell_of_get (hO3.get (b, qobj n vs st) (List.mem_append_right _ List.mem_cons_self)) (1 + k)).trans (qcells_k n vs st hk16); have k1 := free_of_get (hO3.get (b, qobj n vs st) (List.mem_append_right _ List.mem_cons_self)) (1 + k))
    all_goals
      have hO5 := q_put' hO3 hk16 (.slice ao2 r.length cap2)
      have hrl : r.length ≤ 1024 := by rw [← HRR.out]; simp; omega
      have hQ2 := HQ.out.set (k := k) (v := .slice ao2 r.length cap2) (xs := r) hS2 hrl
      clear hO3 k0 k1 hS2 hO2 hc1 e1
      go_wp2
      go_ret
      rw [HR.out, HRR.out]
      exact ⟨rfl, _, ⟨_, _, hQ2, rfl⟩, hO5⟩

/-- How many threads there are. -/
def lenQ (ls : Nat → List Int) : Nat → Nat
  | 0 => 0
  | m + 1 => lenQ ls m + (ls m).length

theorem lenQ_le {ls : Nat → List Int} (h : ∀ i, i < 16 → (ls i).length ≤ 1024) : ∀ m, m ≤ 16 → lenQ ls m ≤ 1024 * m
  | 0, _ => by simp [lenQ]
  | m + 1, hm => by
    have := lenQ_le h m (by omega)
    have := h m (by omega)
    rw [lenQ]
    omega

theorem stolen_q (b n : Nat) (vs : Nat → Value) (st : Int) (w : World) (hb : w.heap[b]? = some (qobj n vs st)) (hn : 1 ≤ n) : Calls Try.prog 23 #[.pointer (some ⟨b, 0, none⟩)] w fun e w' => e = .returned (.int .i64 st) ∧ w = w' := by
  have hc : w.cell? ⟨b, 17, none⟩ = some (.int .i64 st) := cell_of_get hb 17
  have HB := Lib.hid hb
  clear hb
  go_enter Try.func23, Try.ntmps23
  go_wp2_with (go_at_call 49; refine (none_q b n vs st _ HB.out hn).mono ?_; rintro e w' ⟨rfl, rfl⟩)
  go_ret
  exact ⟨rfl, rfl⟩

set_option maxRecDepth 100000 in
set_option maxHeartbeats 1000000 in
theorem len_q (b n : Nat) (vs : Nat → Value) (Ls : Nat → List (Nat × Obj)) (ls : Nat → List Int) (st : Int) (w : World) (hQ : Qs vs Ls n ls) (hb : w.heap[b]? = some (qobj n vs st)) :
    Calls Try.prog 18 #[.pointer (some ⟨b, 0, none⟩)] w fun e w' => e = .returned (.int .i64 (lenQ ls 16)) ∧ w = w' := by
  have HB := Lib.hid hb
  have hpos := hQ.pos
  have hle := Lib.hid (lenQ_le hQ.len)
  have hlen := Lib.hid hQ.len
  have hform := Lib.hid (show ∀ k, k < 16 → ∃ ao cap, vs k = .slice ao (ls k).length cap from fun k hk => by obtain ⟨ao, cap, h, _⟩ := (hQ.sl k hk).form; exact ⟨ao, cap, h⟩)
  have c0 : w.cell? ⟨b, 1, none⟩ = some (vs 0) := q_cell hb (k := 0) (by omega)
  have c1 : w.cell? ⟨b, 2, none⟩ = some (vs 1) := q_cell hb (k := 1) (by omega)
  have c2 : w.cell? ⟨b, 3, none⟩ = some (vs 2) := q_cell hb (k := 2) (by omega)
  have c3 : w.cell? ⟨b, 4, none⟩ = some (vs 3) := q_cell hb (k := 3) (by omega)
  have c4 : w.cell? ⟨b, 5, none⟩ = some (vs 4) := q_cell hb (k := 4) (by omega)
  have c5 : w.cell? ⟨b, 6, none⟩ = some (vs 5) := q_cell hb (k := 5) (by omega)
  have c6 : w.cell? ⟨b, 7, none⟩ = some (vs 6) := q_cell hb (k := 6) (by omega)
  have c7 : w.cell? ⟨b, 8, none⟩ = some (vs 7) := q_cell hb (k := 7) (by omega)
  have c8 : w.cell? ⟨b, 9, none⟩ = some (vs 8) := q_cell hb (k := 8) (by omega)
  have c9 : w.cell? ⟨b, 10, none⟩ = some (vs 9) := q_cell hb (k := 9) (by omega)
  have c10 : w.cell? ⟨b, 11, none⟩ = some (vs 10) := q_cell hb (k := 10) (by omega)
  have c11 : w.cell? ⟨b, 12, none⟩ = some (vs 11) := q_cell hb (k := 11) (by omega)
  have c12 : w.cell? ⟨b, 13, none⟩ = some (vs 12) := q_cell hb (k := 12) (by omega)
  have c13 : w.cell? ⟨b, 14, none⟩ = some (vs 13) := q_cell hb (k := 13) (by omega)
  have c14 : w.cell? ⟨b, 15, none⟩ = some (vs 14) := q_cell hb (k := 14) (by omega)
  have c15 : w.cell? ⟨b, 16, none⟩ = some (vs 15) := q_cell hb (k := 15) (by omega)
  clear hb hQ
  go_enter Try.func18, Try.ntmps18
  go_wp2_with (go_at_call 49; refine (none_q b n vs st _ HB.out hpos).mono ?_; rintro e w' ⟨rfl, rfl⟩)
  clear c0 c1 c2 c3 c4 c5 c6 c7 c8 c9 c10 c11 c12 c13 c14 c15
  obtain ⟨arr, harr⟩ : ∃ arr : Array Value, arr = #[vs 0, vs 1, vs 2, vs 3, vs 4, vs 5, vs 6, vs 7, vs 8, vs 9, vs 10, vs 11, vs 12, vs 13, vs 14, vs 15] := ⟨_, rfl⟩
  rw [← harr]
  have hget := Lib.hid (show ∀ k, k < 16 → arr[k]? = some (vs k) by
    intro k hk
    subst harr
    obtain rfl | rfl | rfl | rfl | rfl | rfl | rfl | rfl | rfl | rfl | rfl | rfl | rfl | rfl | rfl | rfl : k = 0 ∨ k = 1 ∨ k = 2 ∨ k = 3 ∨ k = 4 ∨ k = 5 ∨ k = 6 ∨ k = 7 ∨ k = 8 ∨ k = 9 ∨ k = 10 ∨ k = 11 ∨ k = 12 ∨ k = 13 ∨ k = 14 ∨ k = 15 := by omega
    all_goals rfl)
  have hsz : arr.size = 16 := by rw [harr]; rfl
  have HSZ := Lib.hid hsz
  clear harr hsz
  go_loop [3, 5, 13] (fun n _ i => ∃ k : Nat, k ≤ 16 ∧ i = .int .i64 k ∧ n = .int .i64 (lenQ ls k)) (fun _ _ i => 16 - (intOf i).toNat)
  case atStart => exact ⟨0, Nat.zero_le _, rfl, rfl⟩
  case round =>
    obtain ⟨k, hk, rfl, rfl⟩ := hrel
    by_cases hlt : k < 16
    · have hki : (k : Int) < 16 := by omega
      obtain ⟨ao, cap, hv⟩ := hform.out k hlt
      have hg : arr[k]? = some (.slice ao (ls k).length cap) := by rw [hget.out k hlt, hv]
      have hl1 := hle.out k (by omega)
      have hl2 := hlen.out k hlt
      have hn2 := Lib.hid (show lenQ ls (k + 1) = lenQ ls k + (ls k).length from rfl)
      have hix : ∀ w, (Instr.index 48 (.agg arr) (.int .i64 k)).run Try.prog w = .ok (.slice ao (ls k).length cap) w := by
        intro w
        have h0 : (0 : Int) ≤ k ∧ (k : Int) < 16 := by omega
        obtain ⟨hk1, hk2⟩ := Array.getElem?_eq_some_iff.1 hg
        simp [Instr.index, run_underlying Try.underlying48, asIntOf, h0, hg, go_sem]
        intro h
        omega
      clear hv hg
      go_wp2
      go_round
      case rel => exact ⟨k + 1, by omega, by go_num, by rw [hn2.out]; go_num⟩
      case measure => simp [intOf]; omega
    · obtain rfl : k = 16 := by omega
      go_wp2
      go_ret
      exact ⟨rfl, rfl⟩

end Go.Proofs.Ytojcojoleodjmaa
