/-
  Contracts of New, Push. Conditions: 1 to 16 workers, at most 1,024 threads in a queue.
-/
import Derived.Test.YtojcojoleodjmaaRqA
namespace Go.Proofs.Ytojcojoleodjmaa
open Go.RowKit Go.Sh

theorem qown_open (b n : Nat) (vs : Nat → Value) (Ls : Nat → List (Nat × Obj)) (st : Int) (F : List (Nat × Obj)) {k : Nat} (hk : k < 16) :
    (qown b n vs Ls st ++ F).Perm (Ls k ++ ((b, qobj n vs st) :: (rest 16 k Ls ++ F))) := by
  have h1 := (fam_perm hk Ls).append_right F
  rw [List.append_assoc] at h1
  exact (h1.cons (b, qobj n vs st)).trans List.perm_middle.symm

theorem qown_shut (b n : Nat) (vs : Nat → Value) (Ls : Nat → List (Nat × Obj)) (st : Int) (F : List (Nat × Obj)) {k : Nat} (hk : k < 16) (v : Value) (L : List (Nat × Obj)) :
    (L ++ ((b, qobj n (upd vs k v) st) :: (rest 16 k Ls ++ F))).Perm (qown b n (upd vs k v) (upd Ls k L) st ++ F) := by
  have h1 := ((fam_upd hk Ls L).symm).append_right F
  rw [List.append_assoc] at h1
  exact List.perm_middle.trans (h1.cons _)

def pushQ (n : Nat) (ls : Nat → List Int) (worker who : Int) : Int × (Nat → List Int) :=
  if mayQ n worker = 1 then (1, ls)
  else if (findQ n ls who).isSome = true ∨ who < 0 ∨ 65536 ≤ who then (1, ls)
  else if 1024 ≤ (ls worker.toNat).length then (7, ls)
  else (0, upd ls worker.toNat (ls worker.toNat ++ [who]))

def PushPost (B : Nat) (w0 : World) (b n : Nat) (F : List (Nat × Obj)) (st : Int) (r : Int × (Nat → List Int)) (e : Ending) (w' : World) : Prop :=
  e = .returned (.int .i64 r.1) ∧ ∃ L', Qx b n r.2 st L' ∧ Own B w0 w' (L' ++ F)

theorem findV_cases (n : Nat) (ls : Nat → List Int) (who : Int) : (findQ n ls who = none ∧ findV n ls who = .tuple #[.int .i64 0, .int .i64 0, .bool false]) ∨
    ∃ k i : Nat, k < n ∧ i < (ls k).length ∧ findQ n ls who = some k ∧ idx (ls k) who = i ∧ findV n ls who = .tuple #[.int .i64 k, .int .i64 i, .bool true] := by
  unfold findV
  cases h : findQ n ls who with
  | none => exact .inl ⟨rfl, rfl⟩
  | some k =>
    unfold findQ at h
    rw [List.find?_range_eq_some] at h
    obtain ⟨h1, h2, _⟩ := h
    rw [← idx_ge] at h1
    rcases idx_cases (ls k) who with h3 | ⟨i, hi, h3⟩
    · rw [h3] at h1; simp at h1
    · exact .inr ⟨k, i, List.mem_range.1 h2, hi, rfl, h3, by simp only [h3]⟩

theorem mayQ_cases (n : Nat) (worker : Int) : mayQ n worker = 1 ∨ (mayQ n worker = 0 ∧ ∃ k : Nat, worker = k ∧ k < n) := by
  unfold mayQ
  split
  · exact .inl rfl
  · exact .inr ⟨rfl, worker.toNat, by omega, by omega⟩

set_option maxRecDepth 100000 in
set_option maxHeartbeats 4000000 in
theorem push_q (B : Nat) (w0 : World) (b n : Nat) (ls : Nat → List Int) (st : Int) (L F : List (Nat × Obj)) (worker who : Int) (w : World) (hX : Qx b n ls st L) (hO : Own B w0 w (L ++ F)) :
    Calls Try.prog 15 #[.pointer (some ⟨b, 0, none⟩), .int .i64 worker, .int .i64 who] w (PushPost B w0 b n F st (pushQ n ls worker who)) := by
  have hX' := hX
  obtain ⟨vs, Ls, hQ, rfl⟩ := hX'
  have hL := Lib.hid (show ∀ p ∈ qown b n vs Ls st, w.heap[p.1]? = some p.2 from fun p hp => hO.get p (List.mem_append_left _ hp))
  have hb := Lib.hid (hL.out (b, qobj n vs st) List.mem_cons_self)
  have hpos := hQ.pos
  have htop := hQ.top
  rcases mayQ_cases n worker with h1 | ⟨h1, k, rfl, hk⟩
  · have HR := Lib.hid (show pushQ n ls worker who = (1, ls) by simp [pushQ, h1])
    have H1 := Lib.hid h1
    clear h1
    go_enter Try.func15, Try.ntmps15
    go_wp2_with (go_at_call 45; refine (may_q b n vs st worker _ hb.out hpos).mono ?_; rintro e w' ⟨rfl, rfl⟩; rw [H1.out])
    go_ret
    rw [HR.out]
    exact ⟨rfl, _, hX, hO⟩
  · have hk16 : k < 16 := by omega
    have H1 := Lib.hid h1
    by_cases h2 : (findQ n ls who).isSome = true ∨ who < 0 ∨ 65536 ≤ who
    · have HR := Lib.hid (show pushQ n ls k who = (1, ls) by simp [pushQ, h1, h2])
      clear h1
      rcases findV_cases n ls who with ⟨h3, h4⟩ | ⟨k', i', _, _, h3, _, h4⟩
      · have h2' : who < 0 ∨ 65536 ≤ who := by
          rcases h2 with h | h
          · rw [h3] at h; simp at h
          · exact h
        have H4 := Lib.hid h4
        clear h2 h3 h4
        rcases h2' with h5 | h5
        · go_enter Try.func15, Try.ntmps15
          go_wp2_with (first | (go_at_call 45; refine (may_q b n vs st k _ hb.out hpos).mono ?_; rintro e w' ⟨rfl, rfl⟩; rw [H1.out]) | (go_at_call 46; refine (find_q b n vs Ls ls st who _ hQ hL.out).mono ?_; rintro e w' ⟨rfl, rfl⟩; rw [H4.out]))
          go_ret
          rw [HR.out]
          exact ⟨rfl, _, hX, hO⟩
        · have h6 : ¬ who < 0 := by omega
          go_enter Try.func15, Try.ntmps15
          go_wp2_with (first | (go_at_call 45; refine (may_q b n vs st k _ hb.out hpos).mono ?_; rintro e w' ⟨rfl, rfl⟩; rw [H1.out]) | (go_at_call 46; refine (find_q b n vs Ls ls st who _ hQ hL.out).mono ?_; rintro e w' ⟨rfl, rfl⟩; rw [H4.out]))
          go_ret
          rw [HR.out]
          exact ⟨rfl, _, hX, hO⟩
      · have H4 := Lib.hid h4
        clear h2 h3 h4
        go_enter Try.func15, Try.ntmps15
        go_wp2_with (first | (go_at_call 45; refine (may_q b n vs st k _ hb.out hpos).mono ?_; rintro e w' ⟨rfl, rfl⟩; rw [H1.out]) | (go_at_call 46; refine (find_q b n vs Ls ls st who _ hQ hL.out).mono ?_; rintro e w' ⟨rfl, rfl⟩; rw [H4.out]))
        go_ret
        rw [HR.out]
        exact ⟨rfl, _, hX, hO⟩
    · have h2' : findQ n ls who = none ∧ 0 ≤ who ∧ who < 65536 := by
        simp only [not_or] at h2
        obtain ⟨a1, a2, a3⟩ := h2
        exact ⟨by simpa using a1, by omega, by omega⟩
      obtain ⟨h5, h6, h7⟩ := h2'
      have H4 : Hid (findV n ls who = .tuple #[.int .i64 0, .int .i64 0, .bool false]) := Lib.hid (by unfold findV; rw [h5])
      have hl := hQ.len k hk16
      have hs := hQ.sl k hk16
      obtain ⟨ao, cap, hv, hcap, hcm⟩ := hs.form
      have hcell : w.cell? ⟨b, 1 + k, none⟩ = some (.slice ao (ls k).length cap) := by rw [cell_of_get hb.out (1 + k), qcells_k n vs st hk16, hv]
      have hlt := lt_of_get hb.out
      by_cases h8 : 1024 ≤ (ls k).length
      · have HR := Lib.hid (show pushQ n ls k who = (7, ls) by simp [pushQ, h1, h2, h8])
        clear h1 h2 h5 hv
        go_enter Try.func15, Try.ntmps15
        go_wp2_with (first | (go_at_call 45; refine (may_q b n vs st k _ hb.out hpos).mono ?_; rintro e w' ⟨rfl, rfl⟩; rw [H1.out]) | (go_at_call 46; refine (find_q b n vs Ls ls st who _ hQ hL.out).mono ?_; rintro e w' ⟨rfl, rfl⟩; rw [H4.out]))
        go_ret
        rw [HR.out]
        exact ⟨rfl, _, hX, hO⟩
      · obtain ⟨i0, hi, hz0, hz1, hz2⟩ := info_parts Try.info3
        have HR := Lib.hid (show pushQ n ls k who = (0, upd ls k (ls k ++ [who])) by simp [pushQ, h1, h2, h8])
        have hf : w.frozen? ⟨b, 1 + k, none⟩ = false := free_of_get hb.out (1 + k)
        have hO6 := hO.perm (qown_open b n vs Ls st F hk16)
        rw [hv] at hs
        have HV := Lib.hid hv
        have hlt1 : b < w.heap.size + 1 := by omega
        have hki : (k : Int) < 16 := by omega
        clear h1 h2 h5 hv hX hO
        go_enter Try.func15, Try.ntmps15
        go_wp2_with (first | (go_at_call 45; refine (may_q b n vs st k _ hb.out hpos).mono ?_; rintro e w' ⟨rfl, rfl⟩; rw [H1.out]) | (go_at_call 46; refine (find_q b n vs Ls ls st who _ hQ hL.out).mono ?_; rintro e w' ⟨rfl, rfl⟩; rw [H4.out]))
        go_region_law (refine step_append_sl rfl (.tmp 46) (.tmp 48) 28 rfl _ _ _ Try.underlying28 hi hz0 hz1 hz2 rfl I_len I_one rfl hs (by first | exact (hO6.junk _).drew | exact hO6.drew.junk _) ⟨w.heap.size, 0, none⟩ [who] 1 1 rfl rfl (news_one (x := .int .i64 who) (by simp [World.cell?_alloc_at])) (by decide) (by unfold maxLen; omega) (by omega) ?_; intro g off cap' w1 L1 hS1 hO1 hgl1 hge1; have hO7 := hO1.perm List.perm_middle; have k0 : w1.cell? ⟨b, 1 + k, none⟩ = some _ := (cell_of_get hO7.head (1 + k)).trans (qcells_k n vs st hk16); have k1 := free_of_get hO7.head (1 + k))
        all_goals
          have hO8 := ((hO7.setTo (1 + k) (.slice (some ⟨g, off, none⟩) ((ls k).length + 1) cap') (qcells_set n vs st hk16 _)).perm List.perm_middle.symm).perm (qown_shut b n vs Ls st F hk16 _ L1)
          have hQ' := hQ.set (k := k) (v := .slice (some ⟨g, off, none⟩) ((ls k).length + 1) cap') (xs := ls k ++ [who]) (by simpa using hS1) (by simp; omega)
          clear hO6 hO7 hO1 k0 k1 hS1
          go_wp2
          go_ret
          rw [HR.out]
          exact ⟨rfl, _, ⟨_, _, hQ', rfl⟩, hO8⟩

theorem new_q (n : Nat) (m : Int) (hm : m = n) (w : World) (h1 : 1 ≤ n) (h2 : n ≤ 16) : Calls Try.prog 13 #[.int .i64 m] w fun e w' => e = .returned (.tuple #[.pointer (some ⟨w.heap.size, 0, none⟩), .int .i64 0]) ∧ w' = w.alloc (qobj n (fun _ => .slice none 0 0) 0) := by
  subst hm
  go_enter Try.func13, Try.ntmps13
  go_wp2
  refine bodyPost_ret (v := .tuple #[.pointer (some ⟨w.heap.size, 0, none⟩), .int .i64 0]) (by simp [results, Try.results13, go_sem]) rfl ⟨rfl, rfl⟩

theorem new_q_bad (m : Int) (w : World) (h : m < 1 ∨ 16 < m) : Calls Try.prog 13 #[.int .i64 m] w fun e w' => e = .returned (.tuple #[.pointer none, .int .i64 1]) ∧ w' = w := by
  rcases h with h | h
  · go_enter Try.func13, Try.ntmps13
    go_wp2
    refine bodyPost_ret (v := .tuple #[.pointer none, .int .i64 1]) (by simp [results, Try.results13, go_sem]) rfl ⟨rfl, rfl⟩
  · have h' : ¬ m < 1 := by omega
    go_enter Try.func13, Try.ntmps13
    go_wp2
    refine bodyPost_ret (v := .tuple #[.pointer none, .int .i64 1]) (by simp [results, Try.results13, go_sem]) rfl ⟨rfl, rfl⟩

/-- No queue holds anything. -/
theorem Qs.new {n : Nat} (h1 : 1 ≤ n) (h2 : n ≤ 16) : Qs (fun _ => .slice none 0 0) (fun _ => []) n (fun _ => []) := ⟨h1, h2, fun _ _ => Sl.nil, fun _ _ => by simp⟩

theorem Qx.new {b n : Nat} (h1 : 1 ≤ n) (h2 : n ≤ 16) : Qx b n (fun _ => []) 0 [(b, qobj n (fun _ => .slice none 0 0) 0)] := ⟨_, _, Qs.new h1 h2, rfl⟩

end Go.Proofs.Ytojcojoleodjmaa
