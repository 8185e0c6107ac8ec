/-
  Contracts of cond's several, Signal, Broadcast. Condition: few waiters.
-/
import Derived.Test.YtidnkienkdlmkaaCdC
import Derived.Deep.RegionLaw
namespace Go.Proofs.Ytidnkienkdlmkaa
open Go.RowKit Go.Sh
attribute [local go_sem ↓] Go.wp_at_zero Go.wp_at_succ

abbrev kZ : Obj := Obj.cells #[.bool false, .int .i64 0, .int .i64 0, .int .i64 0, .slice none 0 0] 33 (0, 0)
abbrev kX (v : Value) : Obj := Obj.cells #[.bool true, .int .i64 0, .int .i64 0, .int .i64 0, v] 33 (0, 0)

theorem Try.info38k : (Try.prog.info? 38).map (fun i => (i.zero, i.size, i.bytes)) = some (some (.agg #[.int .i64 0, .int .i64 0, .int .i64 0, .int .i64 0]), 4, 32) := by kernel_rfl
theorem W4_onek (x : Wk) : ∀ u ∈ W4 x, u.oneCell' = true := fun u h => by simp at h; rcases h with rfl | rfl | rfl | rfl <;> rfl

theorem cell_al {w : World} {a : Addr} {v : Value} (o : Obj) (h : w.cell? a = some v) : (w.alloc o).cell? a = some v := by
  rw [World.cell?_alloc_some _ _ _ (by rw [h]; rfl)]; exact h

/-- 'on', so many times. -/
def sevK : Nat → KS → List Wk × KS
  | 0, s => ([], s)
  | n + 1, s => ((onK s).1 ++ (sevK n (onK s).2).1, (sevK n (onK s).2).2)

theorem onW_len (r : LkR) (who : Int) : (onW r who).length ≤ 1 := by unfold onW; split <;> (try split) <;> simp
theorem onK_len (s : KS) : (onK s).1.length ≤ 1 := by
  unfold onK
  split
  · simp
  · exact onW_len _ _
theorem onK_q (s : KS) : (onK s).2.q = s.q.tail := by
  unfold onK
  split
  · rename_i h; simp [h]
  · rename_i h; simp [h, KS.withQ]

theorem Kw.lenq {bc b0 b1 : Nat} {s : KS} {L : List (Nat × Obj)} (h : Kw bc b0 b1 s L) : s.q.length ≤ 256 := by
  obtain ⟨_, _, _, _, ⟨_, _, _, _, hl⟩, _, _⟩ := h
  simpa [encQ] using hl

theorem Kw.cells {B : Nat} {w0 w : World} {bc b0 b1 : Nat} {s : KS} {L F : List (Nat × Obj)} (h : Kw bc b0 b1 s L) (hO : Own B w0 w F) (hL : ∀ p ∈ L, p ∈ F) :
    ∃ a c, w.cell? ⟨bc, 0, none⟩ = some (.slice a s.q.length c) ∧ w.cell? ⟨bc, 1, none⟩ = some (.bool true) ∧ bc < w.heap.size := by
  obtain ⟨Lc, L0, L1, rfl, ⟨v, Lq, rfl, hs, hl⟩, _, _⟩ := h
  obtain ⟨a, c, rfl, _⟩ := hs.form
  have hb := hO.get (bc, kobj (.slice a (encQ b0 b1 s.q).length c)) (hL _ (by simp))
  exact ⟨a, c, by have := cell_of_get hb 0; simpa [encQ] using this, cell_of_get hb 1, lt_of_get hb⟩

def SevRel (B : Nat) (w0 : World) (bc b0 b1 N Z X : Nat) (F : List (Nat × Obj)) (tot : List Wk × KS) (i : Value) (wr : World) : Prop :=
  ∃ (k : Nat) (s : KS) (v : Value) (ws : List Wk) (Lw L : List (Nat × Obj)), k ≤ N ∧ i = .int .i64 k ∧ Kw bc b0 b1 s L ∧ Sl 38 4 W4 v ws Lw ∧ tot = (ws ++ (sevK (N - k) s).1, (sevK (N - k) s).2) ∧
    N - k ≤ s.q.length ∧ ws.length ≤ k ∧ Own B w0 wr (Lw ++ ((X, kX v) :: (L ++ ((Z, kZ) :: F))))

def SevPost (B : Nat) (w0 : World) (bc b0 b1 : Nat) (F : List (Nat × Obj)) (r : List Wk × KS) (e : Ending) (w' : World) : Prop :=
  ∃ wk Lk L', e = .returned (.tuple #[outV true 0 0 0 wk, .int .i64 0]) ∧ Sl 38 4 W4 wk r.1 Lk ∧ Kw bc b0 b1 r.2 L' ∧ Own B w0 w' (L' ++ (Lk ++ F))

theorem sev_step {tot : List Wk × KS} {ws : List Wk} {s : KS} {N k : Nat} (hk : k < N) (h : tot = (ws ++ (sevK (N - k) s).1, (sevK (N - k) s).2)) :
    tot = ((ws ++ (onK s).1) ++ (sevK (N - (k + 1)) (onK s).2).1, (sevK (N - (k + 1)) (onK s).2).2) := by
  rw [h, show N - k = N - (k + 1) + 1 by omega, sevK]
  simp

theorem most73 (Bc bc : Nat) (a : Option Addr) (n c : Nat) (w : World) (h0 : w.cell? ⟨Bc, 0, none⟩ = some (.pointer (some ⟨bc, 0, none⟩))) (h1 : w.cell? ⟨bc, 0, none⟩ = some (.slice a n c)) (hn : n ≤ 256) :
    Calls Try.prog 73 #[.pointer (some ⟨Bc, 0, none⟩)] w fun e w' => e = .returned (.int .i64 (min n 1 : Nat)) ∧ w = w' := by
  by_cases h : 1 < n
  · have HM := Lib.hid (show min n 1 = 1 by omega)
    go_enter Try.func73, Try.ntmps73
    go_wp2
    go_ret
    exact ⟨by rw [HM.out]; rfl, rfl⟩
  · have HM := Lib.hid (show min n 1 = n by omega)
    go_enter Try.func73, Try.ntmps73
    go_wp2
    go_ret
    exact ⟨by rw [HM.out]; rfl, rfl⟩

theorem most74 (Bc bc : Nat) (a : Option Addr) (n c : Nat) (w : World) (h0 : w.cell? ⟨Bc, 0, none⟩ = some (.pointer (some ⟨bc, 0, none⟩))) (h1 : w.cell? ⟨bc, 0, none⟩ = some (.slice a n c)) :
    Calls Try.prog 74 #[.pointer (some ⟨Bc, 0, none⟩)] w fun e w' => e = .returned (.int .i64 n) ∧ w = w' := by
  go_enter Try.func74, Try.ntmps74
  go_wp2
  go_ret
  exact ⟨rfl, rfl⟩

set_option maxRecDepth 100000 in
set_option maxHeartbeats 4000000 in
theorem several72_73 (B : Nat) (w0 : World) (bc b0 b1 Bc : Nat) (s : KS) (L F : List (Nat × Obj)) (w : World) (hK : Kw bc b0 b1 s L) (hO : Own B w0 w (L ++ F)) (hB : w.cell? ⟨Bc, 0, none⟩ = some (.pointer (some ⟨bc, 0, none⟩))) :
    Calls Try.prog 72 #[.pointer (some ⟨bc, 0, none⟩), .func (.func 73) #[] #[.pointer (some ⟨Bc, 0, none⟩)]] w (SevPost B w0 bc b0 b1 F (sevK (min s.q.length 1) s)) := by
  obtain ⟨i0, hi, hz0, hz1, hz2⟩ := info_parts Try.info38k
  have eg : ∀ args w, (callFunc 73 args).run Try.prog w = .ok (.enter 73 args) w := enters_of Try.func73 (by kernel_rfl) rfl
  obtain ⟨a, c, c0, c1, hlt⟩ := hK.cells hO (fun p hp => List.mem_append_left _ hp)
  have hlq := hK.lenq
  have hBl : Bc < w.heap.size := World.block_lt_of_cell? _ _ hB
  obtain ⟨N, hN⟩ : ∃ N, min s.q.length 1 = N := ⟨_, rfl⟩
  have hN1 : N ≤ 256 := by omega
  have hN2 : N ≤ s.q.length := by omega
  rw [hN]
  have HN := Lib.hid hN
  obtain ⟨tot, htot⟩ : ∃ t, sevK N s = t := ⟨_, rfl⟩
  rw [htot]
  have hlt1 : bc < w.heap.size + 1 := by omega
  have hBl1 : Bc < w.heap.size + 1 := by omega
  have HO := Lib.hid (((hO.allocAt kZ (n := w.heap.size) rfl).allocAt (kX (.slice none 0 0)) (n := w.heap.size + 1) (by simp)).shuf [[_], [_], L, F] [0, 2, 1, 3] rfl rfl)
  have HTOT := Lib.hid (show tot = ([] ++ (sevK (N - 0) s).1, (sevK (N - 0) s).2) by rw [← htot]; simp)
  have HK := Lib.hid hK
  have HC0 := Lib.hid c0
  have HC1 := Lib.hid c1
  have HBC := Lib.hid hB
  clear hK hO htot hN
  go_enter Try.func72, Try.ntmps72
  go_wp2_with (go_at_call 69; refine (knone bc true _ (cell_al _ HC1.out)).mono ?_; rintro e w' ⟨rfl, rfl⟩)
  refine (most73 Bc bc a s.q.length c _ (cell_al _ (cell_al _ HBC.out)) (cell_al _ (cell_al _ HC0.out)) hlq).mono ?_
  rintro e w' ⟨rfl, rfl⟩
  rw [HN.out]
  have hXZ : w.heap.size + 1 ≠ w.heap.size := by omega
  generalize hZ : w.heap.size = Z at HO hXZ ⊢
  clear hZ hlt1 hBl1
  go_wp2
  go_loopw [13] (fun i wr => SevRel B w0 bc b0 b1 N Z (Z + 1) F tot i wr) (fun i _ => N - (intOf i).toNat)
  case atStart => exact ⟨0, s, _, [], [], L, Nat.zero_le _, rfl, HK.out, Sl.nil, HTOT.out, by omega, by simp, HO.out⟩
  case round =>
    clear HO HTOT HK HC0 HC1 HBC hlq hN2
    obtain ⟨k, s1, v, ws, Lw, L1, hk, rfl, hK1, hS1, ht, hq1, hwl, hO1⟩ := hrel
    obtain ⟨va, vc, rfl, hvc, _⟩ := hS1.form
    have hX := hO1.get (Z + 1, kX (.slice va ws.length vc)) (by simp)
    have x4 : wr.cell? ⟨Z + 1, 4, none⟩ = some (.slice va ws.length vc) := cell_of_get hX 4
    have xl := lt_of_get hX
    by_cases hlt : k < N
    · obtain ⟨x, r, hq⟩ : ∃ x r, s1.q = x :: r := by
        cases h : s1.q with
        | nil => rw [h] at hq1; simp at hq1; omega
        | cons x r => exact ⟨x, r, rfl⟩
      have HQ := Lib.hid hq
      have HT := Lib.hid (sev_step hlt ht)
      have HS1 := Lib.hid hS1
      have HK1 := Lib.hid hK1
      have hol := onK_len s1
      have hoq : (onK s1).2.q.length + 1 = s1.q.length := by rw [onK_q, hq]; simp
      have hq2 : N - (k + 1) ≤ (onK s1).2.q.length := by omega
      have HO1 := Lib.hid (hO1.shuf [Lw, [_], L1, (Z, kZ) :: F] [2, 0, 1, 3] rfl rfl)
      obtain ⟨wn, st, hon⟩ : ∃ wn st, onK s1 = (wn, st) := ⟨_, _, rfl⟩
      rw [hon] at HT hol hq2
      dsimp only at hol hq2
      have HON := Lib.hid hon
      clear hq ht hS1 hK1 hO1 hX hoq hq1 hon
      have hwn : ws.length + wn.length ≤ 300 := by omega
      go_wp2
      go_region_law (first | (go_simp; go_at_call 106; refine (on106 B w0 bc b0 b1 s1 L1 (Lw ++ ((Z + 1, kX (.slice va ws.length vc)) :: ((Z, kZ) :: F))) x r _ HQ.out HK1.out (by simpa [cat] using HO1.out.drew)).mono ?_; rw [HON.out]; rintro e w2 ⟨vk, Lk, L2, rfl, hSk, hK2, hO2⟩; dsimp only at hSk hK2; obtain ⟨ka, kc, rfl, _, _⟩ := hSk.form; have hX2 := hO2.get (Z + 1, kX (.slice va ws.length vc)) (by simp); have y4 : w2.cell? ⟨Z + 1, 4, none⟩ = some (.slice va ws.length vc) := cell_of_get hX2 4; clear hX2; have hO3 := hO2.shuf [L2, Lk, Lw, [_], (Z, kZ) :: F] [2, 0, 1, 3, 4] rfl rfl) | (refine step_append_all rfl (.tmp 16) (.tmp 18) 31 rfl _ _ _ Try.underlying31 hi hz0 hz1 hz2 rfl W4_len W4_onek rfl (by exact HS1.out) (by exact hO3) _ rfl wn Lk (by exact hSk) (by intro p hp; simp [cat, hp]) (by unfold maxLen; omega) (by omega) (ws.length + wn.length) rfl ?_; intro ao cap w3 L3 hS3 hO4 hge; have hX3 := hO4.get (Z + 1, kX (.slice va ws.length vc)) (by simp [cat]); have u4 : w3.cell? ⟨Z + 1, 4, none⟩ = some (.slice va ws.length vc) := cell_of_get hX3 4; have uf : w3.frozen? ⟨Z + 1, 4, none⟩ = false := free_of_get hX3 4; have ul := lt_of_get hX3; clear hX3))
      all_goals
        have hO5 := Own.setTo (hO4.shuf [L3, L2, Lk, [_], (Z, kZ) :: F] [3, 1, 0, 4, 2] rfl rfl) 4 (.slice ao (ws.length + wn.length) cap) rfl
        have HO5 := Lib.hid (show Own B w0 _ ((L3 ++ ((Z + 1, kX (.slice ao (ws.length + wn.length) cap)) :: (L2 ++ ((Z, kZ) :: F)))) ++ Lk) from by simpa [cat, List.append_assoc] using hO5.shuf [[_], L2, L3, (Z, kZ) :: F, Lk] [2, 0, 1, 3, 4] rfl rfl).left
        have HS3 := Lib.hid hS3
        clear hO3 hO4 hO5 hS3 x4 y4 u4 uf
        go_wp2
        exact ⟨⟨k + 1, st, _, ws ++ wn, L3, L2, by omega, by go_num, hK2, by simpa using HS3.out, HT.out, hq2, by simp; omega, HO5.out⟩, by simp [intOf]; omega⟩
    · obtain rfl : k = N := by omega
      obtain ⟨x0, x1, x2, x3, _⟩ := z5 hX
      have hZ := hO1.get (Z, kZ) (by simp)
      obtain ⟨z0, z1, z2, z3, z4⟩ := z5 hZ
      have zf := free_of_get hZ
      have zl := lt_of_get hZ
      have HT := Lib.hid (show tot = (ws, s1) by rw [ht]; simp [sevK])
      have hO2 := out5 (hO1.shuf [Lw, [_], L1, [_], F] [3, 2, 0, 4, 1] rfl rfl) (.bool true) (.int .i64 0) (.int .i64 0) (.int .i64 0) (.slice va ws.length vc)
      obtain ⟨r0, r1, r2, r3, r4⟩ := z5 hO2.head
      have HO2 := Lib.hid (show Own B w0 _ ((L1 ++ (Lw ++ F)) ++ [(Z + 1, kX (.slice va ws.length vc))]) from by simpa [cat, List.append_assoc] using hO2.tail).left
      have HS1 := Lib.hid hS1
      clear ht hX hZ hO1 hO2 hS1
      go_wp2
      rw [HT.out]
      refine bodyPost_ret (v := .tuple #[outV true 0 0 0 (.slice va ws.length vc), .int .i64 0]) (by simp [results, Try.results72, go_sem, r0, r1, r2, r3, r4]) rfl ⟨_, Lw, L1, rfl, HS1.out, hK1, HO2.out⟩

set_option maxRecDepth 100000 in
set_option maxHeartbeats 4000000 in
theorem several72_74 (B : Nat) (w0 : World) (bc b0 b1 Bc : Nat) (s : KS) (L F : List (Nat × Obj)) (w : World) (hK : Kw bc b0 b1 s L) (hO : Own B w0 w (L ++ F)) (hB : w.cell? ⟨Bc, 0, none⟩ = some (.pointer (some ⟨bc, 0, none⟩))) :
    Calls Try.prog 72 #[.pointer (some ⟨bc, 0, none⟩), .func (.func 74) #[] #[.pointer (some ⟨Bc, 0, none⟩)]] w (SevPost B w0 bc b0 b1 F (sevK (s.q.length) s)) := by
  obtain ⟨i0, hi, hz0, hz1, hz2⟩ := info_parts Try.info38k
  have eg : ∀ args w, (callFunc 74 args).run Try.prog w = .ok (.enter 74 args) w := enters_of Try.func74 (by kernel_rfl) rfl
  obtain ⟨a, c, c0, c1, hlt⟩ := hK.cells hO (fun p hp => List.mem_append_left _ hp)
  have hlq := hK.lenq
  have hBl : Bc < w.heap.size := World.block_lt_of_cell? _ _ hB
  obtain ⟨N, hN⟩ : ∃ N, s.q.length = N := ⟨_, rfl⟩
  have hN1 : N ≤ 256 := by omega
  have hN2 : N ≤ s.q.length := by omega
  rw [hN]
  have HN := Lib.hid hN
  obtain ⟨tot, htot⟩ : ∃ t, sevK N s = t := ⟨_, rfl⟩
  rw [htot]
  have hlt1 : bc < w.heap.size + 1 := by omega
  have hBl1 : Bc < w.heap.size + 1 := by omega
  have HO := Lib.hid (((hO.allocAt kZ (n := w.heap.size) rfl).allocAt (kX (.slice none 0 0)) (n := w.heap.size + 1) (by simp)).shuf [[_], [_], L, F] [0, 2, 1, 3] rfl rfl)
  have HTOT := Lib.hid (show tot = ([] ++ (sevK (N - 0) s).1, (sevK (N - 0) s).2) by rw [← htot]; simp)
  have HK := Lib.hid hK
  have HC0 := Lib.hid c0
  have HC1 := Lib.hid c1
  have HBC := Lib.hid hB
  clear hK hO htot hN
  go_enter Try.func72, Try.ntmps72
  go_wp2_with (go_at_call 69; refine (knone bc true _ (cell_al _ HC1.out)).mono ?_; rintro e w' ⟨rfl, rfl⟩)
  refine (most74 Bc bc a s.q.length c _ (cell_al _ (cell_al _ HBC.out)) (cell_al _ (cell_al _ HC0.out))).mono ?_
  rintro e w' ⟨rfl, rfl⟩
  rw [HN.out]
  have hXZ : w.heap.size + 1 ≠ w.heap.size := by omega
  generalize hZ : w.heap.size = Z at HO hXZ ⊢
  clear hZ hlt1 hBl1
  go_wp2
  go_loopw [13] (fun i wr => SevRel B w0 bc b0 b1 N Z (Z + 1) F tot i wr) (fun i _ => N - (intOf i).toNat)
  case atStart => exact ⟨0, s, _, [], [], L, Nat.zero_le _, rfl, HK.out, Sl.nil, HTOT.out, by omega, by simp, HO.out⟩
  case round =>
    clear HO HTOT HK HC0 HC1 HBC hlq hN2
    obtain ⟨k, s1, v, ws, Lw, L1, hk, rfl, hK1, hS1, ht, hq1, hwl, hO1⟩ := hrel
    obtain ⟨va, vc, rfl, hvc, _⟩ := hS1.form
    have hX := hO1.get (Z + 1, kX (.slice va ws.length vc)) (by simp)
    have x4 : wr.cell? ⟨Z + 1, 4, none⟩ = some (.slice va ws.length vc) := cell_of_get hX 4
    have xl := lt_of_get hX
    by_cases hlt : k < N
    · obtain ⟨x, r, hq⟩ : ∃ x r, s1.q = x :: r := by
        cases h : s1.q with
        | nil => rw [h] at hq1; simp at hq1; omega
        | cons x r => exact ⟨x, r, rfl⟩
      have HQ := Lib.hid hq
      have HT := Lib.hid (sev_step hlt ht)
      have HS1 := Lib.hid hS1
      have HK1 := Lib.hid hK1
      have hol := onK_len s1
      have hoq : (onK s1).2.q.length + 1 = s1.q.length := by rw [onK_q, hq]; simp
      have hq2 : N - (k + 1) ≤ (onK s1).2.q.length := by omega
      have HO1 := Lib.hid (hO1.shuf [Lw, [_], L1, (Z, kZ) :: F] [2, 0, 1, 3] rfl rfl)
      obtain ⟨wn, st, hon⟩ : ∃ wn st, onK s1 = (wn, st) := ⟨_, _, rfl⟩
      rw [hon] at HT hol hq2
      dsimp only at hol hq2
      have HON := Lib.hid hon
      clear hq ht hS1 hK1 hO1 hX hoq hq1 hon
      have hwn : ws.length + wn.length ≤ 300 := by omega
      go_wp2
      go_region_law (first | (go_simp; go_at_call 106; refine (on106 B w0 bc b0 b1 s1 L1 (Lw ++ ((Z + 1, kX (.slice va ws.length vc)) :: ((Z, kZ) :: F))) x r _ HQ.out HK1.out (by simpa [cat] using HO1.out.drew)).mono ?_; rw [HON.out]; rintro e w2 ⟨vk, Lk, L2, rfl, hSk, hK2, hO2⟩; dsimp only at hSk hK2; obtain ⟨ka, kc, rfl, _, _⟩ := hSk.form; have hX2 := hO2.get (Z + 1, kX (.slice va ws.length vc)) (by simp); have y4 : w2.cell? ⟨Z + 1, 4, none⟩ = some (.slice va ws.length vc) := cell_of_get hX2 4; clear hX2; have hO3 := hO2.shuf [L2, Lk, Lw, [_], (Z, kZ) :: F] [2, 0, 1, 3, 4] rfl rfl) | (refine step_append_all rfl (.tmp 16) (.tmp 18) 31 rfl _ _ _ Try.underlying31 hi hz0 hz1 hz2 rfl W4_len W4_onek rfl (by exact HS1.out) (by exact hO3) _ rfl wn Lk (by exact hSk) (by intro p hp; simp [cat, hp]) (by unfold maxLen; omega) (by omega) (ws.length + wn.length) rfl ?_; intro ao cap w3 L3 hS3 hO4 hge; have hX3 := hO4.get (Z + 1, kX (.slice va ws.length vc)) (by simp [cat]); have u4 : w3.cell? ⟨Z + 1, 4, none⟩ = some (.slice va ws.length vc) := cell_of_get hX3 4; have uf : w3.frozen? ⟨Z + 1, 4, none⟩ = false := free_of_get hX3 4; have ul := lt_of_get hX3; clear hX3))
      all_goals
        have hO5 := Own.setTo (hO4.shuf [L3, L2, Lk, [_], (Z, kZ) :: F] [3, 1, 0, 4, 2] rfl rfl) 4 (.slice ao (ws.length + wn.length) cap) rfl
        have HO5 := Lib.hid (show Own B w0 _ ((L3 ++ ((Z + 1, kX (.slice ao (ws.length + wn.length) cap)) :: (L2 ++ ((Z, kZ) :: F)))) ++ Lk) from by simpa [cat, List.append_assoc] using hO5.shuf [[_], L2, L3, (Z, kZ) :: F, Lk] [2, 0, 1, 3, 4] rfl rfl).left
        have HS3 := Lib.hid hS3
        clear hO3 hO4 hO5 hS3 x4 y4 u4 uf
        go_wp2
        exact ⟨⟨k + 1, st, _, ws ++ wn, L3, L2, by omega, by go_num, hK2, by simpa using HS3.out, HT.out, hq2, by simp; omega, HO5.out⟩, by simp [intOf]; omega⟩
    · obtain rfl : k = N := by omega
      obtain ⟨x0, x1, x2, x3, _⟩ := z5 hX
      have hZ := hO1.get (Z, kZ) (by simp)
      obtain ⟨z0, z1, z2, z3, z4⟩ := z5 hZ
      have zf := free_of_get hZ
      have zl := lt_of_get hZ
      have HT := Lib.hid (show tot = (ws, s1) by rw [ht]; simp [sevK])
      have hO2 := out5 (hO1.shuf [Lw, [_], L1, [_], F] [3, 2, 0, 4, 1] rfl rfl) (.bool true) (.int .i64 0) (.int .i64 0) (.int .i64 0) (.slice va ws.length vc)
      obtain ⟨r0, r1, r2, r3, r4⟩ := z5 hO2.head
      have HO2 := Lib.hid (show Own B w0 _ ((L1 ++ (Lw ++ F)) ++ [(Z + 1, kX (.slice va ws.length vc))]) from by simpa [cat, List.append_assoc] using hO2.tail).left
      have HS1 := Lib.hid hS1
      clear ht hX hZ hO1 hO2 hS1
      go_wp2
      rw [HT.out]
      refine bodyPost_ret (v := .tuple #[outV true 0 0 0 (.slice va ws.length vc), .int .i64 0]) (by simp [results, Try.results72, go_sem, r0, r1, r2, r3, r4]) rfl ⟨_, Lw, L1, rfl, HS1.out, hK1, HO2.out⟩

set_option maxRecDepth 100000 in
set_option maxHeartbeats 2000000 in
theorem signal34 (B : Nat) (w0 : World) (bc b0 b1 : Nat) (s : KS) (L F : List (Nat × Obj)) (w : World) (hK : Kw bc b0 b1 s L) (hO : Own B w0 w (L ++ F)) :
    Calls Try.prog 34 #[.pointer (some ⟨bc, 0, none⟩)] w (SevPost B w0 bc b0 b1 F (sevK (min s.q.length 1) s)) := by
  have H1 := Lib.hid (((hO.allocAt (.cells #[.pointer (some ⟨bc, 0, none⟩)] 64) (n := w.heap.size) rfl).allocAt kZ (n := w.heap.size + 1) (by simp)).shuf [[_], [_], L, F] [2, 0, 1, 3] rfl rfl)
  obtain ⟨⟨wn, st⟩, ht⟩ : ∃ t, sevK (min s.q.length 1) s = t := ⟨_, rfl⟩
  rw [ht]
  have HT := Lib.hid ht
  clear hO ht
  go_enter Try.func34, Try.ntmps34
  go_wp2_with fail
  refine (several72_73 B w0 bc b0 b1 w.heap.size s L _ _ hK H1.out (by simp)).mono ?_
  rw [HT.out]
  rintro e w2 ⟨wk, Lk, L2, rfl, hSk, hK2, hO2⟩
  dsimp only at hSk hK2
  obtain ⟨ka, kc, rfl, _, _⟩ := hSk.form
  have hZ : w2.heap[w.heap.size + 1]? = some kZ := hO2.get (w.heap.size + 1, kZ) (by simp [cat])
  obtain ⟨z0, z1, z2, z3, z4⟩ := z5 hZ
  have zf := free_of_get hZ
  have zl := lt_of_get hZ
  have hO3 := out5 (hO2.shuf [L2, Lk, [_], [_], F] [2, 0, 1, 4, 3] rfl rfl) (.bool true) (.int .i64 0) (.int .i64 0) (.int .i64 0) (.slice ka wn.length kc)
  obtain ⟨r0, r1, r2, r3, r4⟩ := z5 hO3.head
  have HO3 := Lib.hid (show Own B w0 _ ((L2 ++ (Lk ++ F)) ++ [(w.heap.size, Obj.cells #[.pointer (some ⟨bc, 0, none⟩)] 64 (0, 0))]) from by simpa [cat, List.append_assoc] using hO3.tail).left
  clear hO2 hO3 hZ
  go_wp2
  refine bodyPost_ret (v := .tuple #[outV true 0 0 0 (.slice ka wn.length kc), .int .i64 0]) (by simp [results, Try.results34, go_sem, r0, r1, r2, r3, r4]) rfl ⟨_, Lk, L2, rfl, hSk, hK2, HO3.out⟩

set_option maxRecDepth 100000 in
theorem several_none73 (B : Nat) (w0 : World) (p : Option Addr) (Bc : Nat) (F : List (Nat × Obj)) (w : World) (hO : Own B w0 w F) (hn : ∀ W, Below w.heap.size w W → Calls Try.prog 69 #[.pointer p] W fun e w' => e = .returned (.bool true) ∧ W = w') :
    Calls Try.prog 72 #[.pointer p, .func (.func 73) #[] #[.pointer (some ⟨Bc, 0, none⟩)]] w fun e w' => e = .returned (.tuple #[outV false 0 0 0 (.slice none 0 0), .int .i64 2]) ∧ Own B w0 w' F ∧ Below w.heap.size w w' := by
  have HN := Lib.hid hn
  clear hn
  go_enter Try.func72, Try.ntmps72
  go_wp2_with (go_at_call 69; refine (HN.out _ ((Below.refl _ w).alloc (Nat.le_refl _) _)).mono ?_; rintro e w' ⟨rfl, rfl⟩)
  refine bodyPost_ret (v := .tuple #[outV false 0 0 0 (.slice none 0 0), .int .i64 2]) (by simp [results, Try.results72, go_sem]) rfl ⟨rfl, hO.junk _, (Below.refl _ w).alloc (Nat.le_refl _) _⟩

set_option maxRecDepth 100000 in
theorem signal_none (B : Nat) (w0 : World) (p : Option Addr) (F : List (Nat × Obj)) (w : World) (hO : Own B w0 w F) (hn : ∀ W, Below w.heap.size w W → Calls Try.prog 69 #[.pointer p] W fun e w' => e = .returned (.bool true) ∧ W = w') :
    Calls Try.prog 34 #[.pointer p] w fun e w' => e = .returned (.tuple #[outV false 0 0 0 (.slice none 0 0), .int .i64 2]) ∧ Own B w0 w' F := by
  have H1 := Lib.hid (((hO.junk (.cells #[.pointer p] 64)).allocAt kZ (n := w.heap.size + 1) (by simp)))
  have HB := Lib.hid (((Below.refl _ w).alloc (Nat.le_refl _) (.cells #[.pointer p] 64)).alloc (by simp) kZ)
  have HN := Lib.hid hn
  clear hn hO
  go_enter Try.func34, Try.ntmps34
  go_wp2_with fail
  refine (several_none73 B w0 p w.heap.size _ _ H1.out (fun W hW => HN.out W (HB.out.trans (hW.mono (by simp; omega))))).mono ?_
  rintro e w2 ⟨rfl, hO2, _⟩
  have hZ : w2.heap[w.heap.size + 1]? = some kZ := hO2.head
  obtain ⟨z0, z1, z2, z3, z4⟩ := z5 hZ
  have zf := free_of_get hZ
  have zl := lt_of_get hZ
  have hO3 := out5 hO2 (.bool false) (.int .i64 0) (.int .i64 0) (.int .i64 0) (.slice none 0 0)
  obtain ⟨r0, r1, r2, r3, r4⟩ := z5 hO3.head
  have HO3 := Lib.hid hO3.tail
  clear hO2 hO3 hZ
  go_wp2
  refine bodyPost_ret (v := .tuple #[outV false 0 0 0 (.slice none 0 0), .int .i64 2]) (by simp [results, Try.results34, go_sem, r0, r1, r2, r3, r4]) rfl ⟨rfl, HO3.out⟩

set_option maxRecDepth 100000 in
set_option maxHeartbeats 2000000 in
theorem broadcast35 (B : Nat) (w0 : World) (bc b0 b1 : Nat) (s : KS) (L F : List (Nat × Obj)) (w : World) (hK : Kw bc b0 b1 s L) (hO : Own B w0 w (L ++ F)) :
    Calls Try.prog 35 #[.pointer (some ⟨bc, 0, none⟩)] w (SevPost B w0 bc b0 b1 F (sevK (s.q.length) s)) := by
  have H1 := Lib.hid (((hO.allocAt (.cells #[.pointer (some ⟨bc, 0, none⟩)] 64) (n := w.heap.size) rfl).allocAt kZ (n := w.heap.size + 1) (by simp)).shuf [[_], [_], L, F] [2, 0, 1, 3] rfl rfl)
  obtain ⟨⟨wn, st⟩, ht⟩ : ∃ t, sevK (s.q.length) s = t := ⟨_, rfl⟩
  rw [ht]
  have HT := Lib.hid ht
  clear hO ht
  go_enter Try.func35, Try.ntmps35
  go_wp2_with fail
  refine (several72_74 B w0 bc b0 b1 w.heap.size s L _ _ hK H1.out (by simp)).mono ?_
  rw [HT.out]
  rintro e w2 ⟨wk, Lk, L2, rfl, hSk, hK2, hO2⟩
  dsimp only at hSk hK2
  obtain ⟨ka, kc, rfl, _, _⟩ := hSk.form
  have hZ : w2.heap[w.heap.size + 1]? = some kZ := hO2.get (w.heap.size + 1, kZ) (by simp [cat])
  obtain ⟨z0, z1, z2, z3, z4⟩ := z5 hZ
  have zf := free_of_get hZ
  have zl := lt_of_get hZ
  have hO3 := out5 (hO2.shuf [L2, Lk, [_], [_], F] [2, 0, 1, 4, 3] rfl rfl) (.bool true) (.int .i64 0) (.int .i64 0) (.int .i64 0) (.slice ka wn.length kc)
  obtain ⟨r0, r1, r2, r3, r4⟩ := z5 hO3.head
  have HO3 := Lib.hid (show Own B w0 _ ((L2 ++ (Lk ++ F)) ++ [(w.heap.size, Obj.cells #[.pointer (some ⟨bc, 0, none⟩)] 64 (0, 0))]) from by simpa [cat, List.append_assoc] using hO3.tail).left
  clear hO2 hO3 hZ
  go_wp2
  refine bodyPost_ret (v := .tuple #[outV true 0 0 0 (.slice ka wn.length kc), .int .i64 0]) (by simp [results, Try.results35, go_sem, r0, r1, r2, r3, r4]) rfl ⟨_, Lk, L2, rfl, hSk, hK2, HO3.out⟩

set_option maxRecDepth 100000 in
theorem several_none74 (B : Nat) (w0 : World) (p : Option Addr) (Bc : Nat) (F : List (Nat × Obj)) (w : World) (hO : Own B w0 w F) (hn : ∀ W, Below w.heap.size w W → Calls Try.prog 69 #[.pointer p] W fun e w' => e = .returned (.bool true) ∧ W = w') :
    Calls Try.prog 72 #[.pointer p, .func (.func 74) #[] #[.pointer (some ⟨Bc, 0, none⟩)]] w fun e w' => e = .returned (.tuple #[outV false 0 0 0 (.slice none 0 0), .int .i64 2]) ∧ Own B w0 w' F ∧ Below w.heap.size w w' := by
  have HN := Lib.hid hn
  clear hn
  go_enter Try.func72, Try.ntmps72
  go_wp2_with (go_at_call 69; refine (HN.out _ ((Below.refl _ w).alloc (Nat.le_refl _) _)).mono ?_; rintro e w' ⟨rfl, rfl⟩)
  refine bodyPost_ret (v := .tuple #[outV false 0 0 0 (.slice none 0 0), .int .i64 2]) (by simp [results, Try.results72, go_sem]) rfl ⟨rfl, hO.junk _, (Below.refl _ w).alloc (Nat.le_refl _) _⟩

set_option maxRecDepth 100000 in
theorem broadcast_none (B : Nat) (w0 : World) (p : Option Addr) (F : List (Nat × Obj)) (w : World) (hO : Own B w0 w F) (hn : ∀ W, Below w.heap.size w W → Calls Try.prog 69 #[.pointer p] W fun e w' => e = .returned (.bool true) ∧ W = w') :
    Calls Try.prog 35 #[.pointer p] w fun e w' => e = .returned (.tuple #[outV false 0 0 0 (.slice none 0 0), .int .i64 2]) ∧ Own B w0 w' F := by
  have H1 := Lib.hid (((hO.junk (.cells #[.pointer p] 64)).allocAt kZ (n := w.heap.size + 1) (by simp)))
  have HB := Lib.hid (((Below.refl _ w).alloc (Nat.le_refl _) (.cells #[.pointer p] 64)).alloc (by simp) kZ)
  have HN := Lib.hid hn
  clear hn hO
  go_enter Try.func35, Try.ntmps35
  go_wp2_with fail
  refine (several_none74 B w0 p w.heap.size _ _ H1.out (fun W hW => HN.out W (HB.out.trans (hW.mono (by simp; omega))))).mono ?_
  rintro e w2 ⟨rfl, hO2, _⟩
  have hZ : w2.heap[w.heap.size + 1]? = some kZ := hO2.head
  obtain ⟨z0, z1, z2, z3, z4⟩ := z5 hZ
  have zf := free_of_get hZ
  have zl := lt_of_get hZ
  have hO3 := out5 hO2 (.bool false) (.int .i64 0) (.int .i64 0) (.int .i64 0) (.slice none 0 0)
  obtain ⟨r0, r1, r2, r3, r4⟩ := z5 hO3.head
  have HO3 := Lib.hid hO3.tail
  clear hO2 hO3 hZ
  go_wp2
  refine bodyPost_ret (v := .tuple #[outV false 0 0 0 (.slice none 0 0), .int .i64 2]) (by simp [results, Try.results35, go_sem, r0, r1, r2, r3, r4]) rfl ⟨rfl, HO3.out⟩

end Go.Proofs.Ytidnkienkdlmkaa
