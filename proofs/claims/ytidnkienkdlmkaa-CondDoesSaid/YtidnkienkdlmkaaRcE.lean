/-
  The document's condition: contract of Broadcast. Conditions: few waiters; who waits for a mutex is a thread.
-/
import Derived.Test.YtidnkienkdlmkaaRcD
namespace Go.Proofs.Ytidnkienkdlmkaa
open Go.RowKit Go.Sh

def RBRel (B : Nat) (w0 : World) (bc b0 b1 Z X : Nat) (F : List (Nat × Obj)) (tot : List Wk × KS) (i : Value) (wr : World) : Prop :=
  ∃ (k : Nat) (s : KS) (v : Value) (ws : List Wk) (Lw L : List (Nat × Obj)), i = .int .i64 k ∧ s.q.length = k ∧ Kr bc b0 b1 s L ∧ Sl 38 4 W4 v ws Lw ∧ tot = (ws ++ (sevK k s).1, (sevK k s).2) ∧
    ws.length + k ≤ 256 ∧ Own B w0 wr (Lw ++ ((X, kX v) :: (L ++ ((Z, kZ) :: F))))

set_option maxRecDepth 100000 in
set_option maxHeartbeats 4000000 in
theorem rbroadcast78 (B : Nat) (w0 : World) (bc b0 b1 : Nat) (s : KS) (L F : List (Nat × Obj)) (w : World) (hK : Kr bc b0 b1 s L) (hO : Own B w0 w (L ++ F)) :
    Calls Try.prog 78 #[.pointer (some ⟨bc, 0, none⟩)] w (RSevPost B w0 bc b0 b1 F (sevK s.q.length s)) := by
  obtain ⟨i0, hi, hz0, hz1, hz2⟩ := info_parts Try.info38k
  have hlq := hK.lenq
  obtain ⟨tot, htot⟩ : ∃ t, sevK s.q.length s = t := ⟨_, rfl⟩
  rw [htot]
  have HTT := Lib.hid htot.symm
  have hO1 := (hO.allocAt kZ (n := w.heap.size) rfl).allocAt (kX (.slice none 0 0)) (n := w.heap.size + 1) (by simp)
  have hXZ : w.heap.size + 1 ≠ w.heap.size := by omega
  clear htot hO
  go_enter Try.func78, Try.ntmps78
  go_upto_region 2 with fail
  obtain ⟨Z, hZe⟩ : ∃ Z, w.heap.size = Z := ⟨_, rfl⟩
  obtain ⟨X, hXe⟩ : ∃ X, Z + 1 = X := ⟨_, rfl⟩
  rw [hZe, hXe] at hO1 hXZ
  rw [hZe, hXe]
  generalize (w.alloc (.cells #[.bool false, .int .i64 0, .int .i64 0, .int .i64 0, .slice none 0 0] 33)).alloc (.cells #[.bool true, .int .i64 0, .int .i64 0, .int .i64 0, .slice none 0 0] 33) = W at hO1 ⊢
  clear hZe hXe
  obtain ⟨a, c, c0, hlt⟩ := hK.cells hO1 (fun p hp => by simp [hp])
  have HO1 := Lib.hid (hO1.shuf [[_], [_], L, F] [0, 2, 1, 3] rfl rfl)
  clear hO1
  go_wp2
  go_loopw [4] (fun i wr => RBRel B w0 bc b0 b1 Z X F tot i wr) (fun i _ => (intOf i).toNat)
  case atStart => exact ⟨s.q.length, s, _, [], [], L, rfl, rfl, hK, Sl.nil, by rw [HTT.out]; rfl, by simpa using hlq, HO1.out⟩
  case round =>
    clear HO1 c0 hlt hlq hK HTT
    obtain ⟨k, s1, v, ws, Lw, L1, rfl, hkq, hK1, hS1, ht, hwl, hO1⟩ := hrel
    obtain ⟨va, vc, rfl, hvc, _⟩ := hS1.form
    have hX := hO1.get (X, kX (.slice va ws.length vc)) (by simp)
    obtain ⟨x0, x1, x2, x3, x4⟩ := z5 hX
    have xl := lt_of_get hX
    cases k with
    | zero =>
      have hZ := hO1.get (Z, kZ) (by simp)
      obtain ⟨z0, z1, z2, z3, z4⟩ := z5 hZ
      have zf := free_of_get hZ
      have zl := lt_of_get hZ
      have HT := Lib.hid (show tot = (ws, s1) by rw [ht]; simp [sevK])
      have hO2 := out5 (hO1.shuf [Lw, [_], L1, [_], F] [3, 2, 0, 4, 1] rfl rfl) (.bool true) (.int .i64 0) (.int .i64 0) (.int .i64 0) (.slice va ws.length vc)
      have HR := Lib.hid (z5 hO2.head)
      have HO2 := Lib.hid (show Own B w0 _ ((L1 ++ (Lw ++ F)) ++ [(X, kX (.slice va ws.length vc))]) from by simpa [cat, List.append_assoc] using hO2.tail).left
      have HS1 := Lib.hid hS1
      clear ht hX hZ hO1 hO2 hS1 hkq
      go_wp2
      obtain ⟨r0, r1, r2, r3, r4⟩ := HR.out
      exact bodyPost_ret (v := outV true 0 0 0 (.slice va ws.length vc)) (by simp [results, Try.results78, go_sem, r0, r1, r2, r3, r4]) rfl (rsev_mk (Lk := Lw) _ HT rfl HS1.out hK1 HO2.out)
    | succ n =>
      obtain ⟨x, r, hq⟩ : ∃ x r, s1.q = x :: r := by
        cases h : s1.q with
        | nil => rw [h] at hkq; simp at hkq
        | cons x r => exact ⟨x, r, rfl⟩
      have hol := onK_len s1
      have hoq : (onK s1).2.q.length = n := by rw [onK_q, hq]; rw [hq] at hkq; simpa using hkq
      obtain ⟨wn, st, hon⟩ : ∃ wn st, onK s1 = (wn, st) := ⟨_, _, rfl⟩
      have HT := Lib.hid (show tot = ((ws ++ wn) ++ (sevK n st).1, (sevK n st).2) by rw [ht]; simp [sevK, hon])
      rw [hon] at hol hoq
      dsimp only at hol hoq
      have HSV := Lib.hid (show sevK (min s1.q.length 1) s1 = (wn, st) by rw [hq]; simp [sevK, hon])
      have HQ := Lib.hid hoq
      have HS1 := Lib.hid hS1
      have HO1 := Lib.hid (hO1.shuf [Lw, [_], L1, (Z, kZ) :: F] [2, 0, 1, 3] rfl rfl)
      have hwn : ws.length + wn.length ≤ 300 := by omega
      clear hq ht hS1 hO1 hX hoq hon hkq x0 x1 x2 x3 x4 xl
      go_wp2_with fail
      refine (rsignal77 B w0 bc b0 b1 s1 L1 _ _ hK1 HO1.out).mono ?_
      rw [HSV.out]
      rintro e w2 ⟨vk, Lk, L2, rfl, hSk, hK2, hO2⟩
      dsimp only at hSk hK2 ⊢
      obtain ⟨ka, kc, rfl, _, _⟩ := hSk.form
      have hO3 := (hO2.alloc (kX (.slice ka wn.length kc))).shuf [[_], L2, Lk, Lw, [_], (Z, kZ) :: F] [3, 4, 1, 5, 2, 0] rfl rfl
      have hX := hO2.get (X, kX (.slice va ws.length vc)) (by simp [cat])
      have x4 : w2.cell? ⟨X, 4, none⟩ = some (.slice va ws.length vc) := cell_of_get hX 4
      have xl := lt_of_get hX
      have xl1 : X < w2.heap.size + 1 := by omega
      have HK2 := Lib.hid hK2
      have HSK := Lib.hid hSk
      clear hX hO2 hSk HO1 hK1 hK2
      go_wp2_with (at_builtin; refine wpList_append_all rfl (.tmp 19) (.tmp 21) 31 rfl _ _ _ Try.underlying31 hi hz0 hz1 hz2 rfl W4_len W4_onek rfl HS1.out (by exact hO3) _ rfl wn Lk (by exact HSK.out) (by intro p hp; simp [cat, hp]) (by simp [maxLen]; omega) (by omega) ?_)
      intro ao cap w3 L3 hS3 hO4 _
      have hX := hO4.get (X, kX (.slice va ws.length vc)) (by simp [cat])
      have x4 : w3.cell? ⟨X, 4, none⟩ = some (.slice va ws.length vc) := cell_of_get hX 4
      have xf := free_of_get hX
      have xl := lt_of_get hX
      have hO5 := Own.setTo (hO4.shuf [L3, [_], L2, (Z, kZ) :: F, Lk, [_]] [1, 2, 0, 3, 4, 5] rfl rfl) 4 (.slice ao (ws.length + wn.length) cap) rfl
      have HO5 := Lib.hid (show Own B w0 _ ((L3 ++ ((X, kX (.slice ao (ws.length + wn.length) cap)) :: (L2 ++ ((Z, kZ) :: F)))) ++ (Lk ++ [_])) from by simpa [cat, List.append_assoc] using hO5.shuf [[_], L2, L3, (Z, kZ) :: F, Lk, [_]] [2, 0, 1, 3, 4, 5] rfl rfl).left
      have HS3 := Lib.hid hS3
      clear hO3 hO4 hO5 hS3 hX
      go_wp2
      exact ⟨⟨n, st, _, ws ++ wn, L3, L2, by go_num, HQ.out, HK2.out, by simpa using HS3.out, HT.out, by simp; omega, HO5.out⟩, by simp [intOf]⟩

end Go.Proofs.Ytidnkienkdlmkaa
