/-
  chanq: contract of Clone; slices.Clone at values and waiters; slices.Equal at values. Conditions: at most 64 values, 256 waiters.
-/
import Derived.Test.YtidnkienkdlmkaaRxD
import Derived.Deep.RegionHeld3
namespace Go.Proofs.Ytidnkienkdlmkaa
open Go.RowKit Go.Sh
attribute [local go_sem ↓] Go.wp_at_zero Go.wp_at_succ

theorem clone114 (B : Nat) (w0 : World) (F : List (Nat × Obj)) (xs : List V2) (v : Value) (L : List (Nat × Obj)) (w : World) (hS : Sl 30 2 C2 v xs L) (hL : ∀ p ∈ L, p ∈ F) (hO : Own B w0 w F) (hx : xs.length ≤ 100000) :
    Calls Try.prog 114 #[v] w (NewSl 30 2 C2 B w0 F xs) := by
  obtain ⟨i0, hi, hz0, hz1, hz2⟩ := info_parts Try.info30
  obtain ⟨ao, cap, rfl, hcap, hcm⟩ := hS.form
  have HCM := Lib.hid hcm
  clear hcm
  have q : ∀ (w : World) (a : Option Addr) (n c n' c' : Nat), (binOp .eql 98 (.slice a n c) (.slice none n' c')).run Try.prog w = .ok (.bool a.isNone) w := fun w a n c n' c' => Lib.run_eql_slice_nil w _ _ a n c n' c' Try.underlying98
  cases ao with
  | none =>
    obtain ⟨rfl, rfl⟩ : xs = [] ∧ L = [] := by
      rcases hS with ⟨_, h1, h2⟩ | ⟨_, _, _, _, h, _⟩
      · exact ⟨h1, h2⟩
      · simp at h
    go_enter Try.func114, Try.ntmps114
    go_wp2
    go_ret
    exact ⟨_, [], rfl, Sl.nil, hO⟩
  | some a =>
    have hE : Sl 30 2 C2 (.slice (some ⟨w.heap.size, 0, none⟩) 0 0) ([] : List V2) [(w.heap.size, .cells #[] 30 (0, 0))] := .inr ⟨_, 0, 0, _, rfl, rfl, by simp, by simp, by simp, by simp⟩
    have hO2 := hO.alloc (.cells #[] 30)
    go_enter Try.func114, Try.ntmps114
    go_wp2_with (at_builtin; refine wpList_append_all rfl (.tmp 5) (.tmp 6) 98 rfl _ _ _ Try.underlying98 hi hz0 hz1 hz2 rfl C2_len C2_one rfl hE (F := F) hO2 _ rfl xs L hS hL ?h1 ?h2 ?h3)
    case h1 => simp [maxLen]; omega
    case h2 => simp; omega
    case h3 =>
      intro ao' cap' w1 L1 hS1 hO1 _
      go_wp2
      go_ret
      exact ⟨_, L1, rfl, by simpa using hS1, hO1⟩

def QPost94 (B : Nat) (w0 : World) (F : List (Nat × Obj)) (xs : List V2) (r : Ending) (w' : World) : Prop :=
  ∃ ao cap L', r = .returned (.agg #[.slice ao xs.length cap]) ∧ Sl 30 2 C2 (.slice ao xs.length cap) xs L' ∧ Own B w0 w' (L' ++ F)

theorem qclone94 (B : Nat) (w0 : World) (F : List (Nat × Obj)) (xs : List V2) (ao : Option Addr) (n cap : Nat) (L : List (Nat × Obj)) (w : World) (hS : Sl 30 2 C2 (.slice ao n cap) xs L) (hL : ∀ p ∈ L, p ∈ F) (hO : Own B w0 w F) (hx : xs.length ≤ 100000) :
    Calls Try.prog 94 #[.agg #[.slice ao n cap]] w (QPost94 B w0 F xs) := by
  have hO2 := (hO.junk (Obj.cells #[.slice ao n cap] 108 (0, 0))).allocAt (Obj.cells #[.slice none 0 0] 108 (0, 0)) (n := w.heap.size + 1) (by simp)
  have HO2 := Lib.hid hO2
  have HS := Lib.hid hS
  have HL := Lib.hid (fun p hp => List.mem_cons_of_mem _ (hL p hp) : ∀ p ∈ L, p ∈ (w.heap.size + 1, Obj.cells #[.slice none 0 0] 108 (0, 0)) :: F)
  clear hO hO2 hS hL
  go_enter Try.func94, Try.ntmps94
  go_wp2_with fail
  refine (clone114 B w0 _ xs _ L _ HS.out HL.out HO2.out hx).mono ?_
  rintro e w2 ⟨v', L', rfl, hS', hO3⟩
  obtain ⟨a', c', rfl, _, _⟩ := hS'.form
  have hb := hO3.get (w.heap.size + 1, Obj.cells #[.slice none 0 0] 108 (0, 0)) (by simp)
  have k0 : w2.cell? ⟨w.heap.size + 1, 0, none⟩ = some (.slice none 0 0) := cell_of_get hb 0
  have kf := free_of_get hb
  have kl := lt_of_get hb
  have hO4 := (hO3.shuf [L', [_], F] [1, 0, 2] rfl rfl).setTo 0 (.slice a' xs.length c') rfl
  have r0 : (w2.setCell ⟨w.heap.size + 1, 0, none⟩ (.slice a' xs.length c')).cell? ⟨w.heap.size + 1, 0, none⟩ = some (.slice a' xs.length c') := cell_of_get hO4.head 0
  have HR0 := Lib.hid r0
  have HO4 := Lib.hid hO4.tail
  have HS' := Lib.hid hS'
  clear hb hO3 hO4 r0 hS'
  go_wp2
  have r0 := HR0.out
  exact bodyPost_ret (v := .agg #[.slice a' xs.length c']) (by simp [results, Try.results94, go_sem, r0]) rfl ⟨_, _, L', rfl, HS'.out, HO4.out⟩

theorem clone115 (B : Nat) (w0 : World) (F : List (Nat × Obj)) (xs : List W3) (v : Value) (L : List (Nat × Obj)) (w : World) (hS : Sl 136 3 C3 v xs L) (hL : ∀ p ∈ L, p ∈ F) (hO : Own B w0 w F) (hx : xs.length ≤ 100000) :
    Calls Try.prog 115 #[v] w (NewSl 136 3 C3 B w0 F xs) := by
  obtain ⟨i0, hi, hz0, hz1, hz2⟩ := info_parts Try.info136
  obtain ⟨ao, cap, rfl, hcap, hcm⟩ := hS.form
  have HCM := Lib.hid hcm
  clear hcm
  have q : ∀ (w : World) (a : Option Addr) (n c n' c' : Nat), (binOp .eql 109 (.slice a n c) (.slice none n' c')).run Try.prog w = .ok (.bool a.isNone) w := fun w a n c n' c' => Lib.run_eql_slice_nil w _ _ a n c n' c' Try.underlying109
  cases ao with
  | none =>
    obtain ⟨rfl, rfl⟩ : xs = [] ∧ L = [] := by
      rcases hS with ⟨_, h1, h2⟩ | ⟨_, _, _, _, h, _⟩
      · exact ⟨h1, h2⟩
      · simp at h
    go_enter Try.func115, Try.ntmps115
    go_wp2
    go_ret
    exact ⟨_, [], rfl, Sl.nil, hO⟩
  | some a =>
    have hE : Sl 136 3 C3 (.slice (some ⟨w.heap.size, 0, none⟩) 0 0) ([] : List W3) [(w.heap.size, .cells #[] 136 (0, 0))] := .inr ⟨_, 0, 0, _, rfl, rfl, by simp, by simp, by simp, by simp⟩
    have hO2 := hO.alloc (.cells #[] 136)
    go_enter Try.func115, Try.ntmps115
    go_wp2_with (at_builtin; refine wpList_append_all rfl (.tmp 5) (.tmp 6) 109 rfl _ _ _ Try.underlying109 hi hz0 hz1 hz2 rfl C3_len C3_one rfl hE (F := F) hO2 _ rfl xs L hS hL ?h1 ?h2 ?h3)
    case h1 => simp [maxLen]; omega
    case h2 => simp; omega
    case h3 =>
      intro ao' cap' w1 L1 hS1 hO1 _
      go_wp2
      go_ret
      exact ⟨_, L1, rfl, by simpa using hS1, hO1⟩

def QPost95 (B : Nat) (w0 : World) (F : List (Nat × Obj)) (xs : List W3) (r : Ending) (w' : World) : Prop :=
  ∃ ao cap L', r = .returned (.agg #[.slice ao xs.length cap]) ∧ Sl 136 3 C3 (.slice ao xs.length cap) xs L' ∧ Own B w0 w' (L' ++ F)

theorem qclone95 (B : Nat) (w0 : World) (F : List (Nat × Obj)) (xs : List W3) (ao : Option Addr) (n cap : Nat) (L : List (Nat × Obj)) (w : World) (hS : Sl 136 3 C3 (.slice ao n cap) xs L) (hL : ∀ p ∈ L, p ∈ F) (hO : Own B w0 w F) (hx : xs.length ≤ 100000) :
    Calls Try.prog 95 #[.agg #[.slice ao n cap]] w (QPost95 B w0 F xs) := by
  have hO2 := (hO.junk (Obj.cells #[.slice ao n cap] 111 (0, 0))).allocAt (Obj.cells #[.slice none 0 0] 111 (0, 0)) (n := w.heap.size + 1) (by simp)
  have HO2 := Lib.hid hO2
  have HS := Lib.hid hS
  have HL := Lib.hid (fun p hp => List.mem_cons_of_mem _ (hL p hp) : ∀ p ∈ L, p ∈ (w.heap.size + 1, Obj.cells #[.slice none 0 0] 111 (0, 0)) :: F)
  clear hO hO2 hS hL
  go_enter Try.func95, Try.ntmps95
  go_wp2_with fail
  refine (clone115 B w0 _ xs _ L _ HS.out HL.out HO2.out hx).mono ?_
  rintro e w2 ⟨v', L', rfl, hS', hO3⟩
  obtain ⟨a', c', rfl, _, _⟩ := hS'.form
  have hb := hO3.get (w.heap.size + 1, Obj.cells #[.slice none 0 0] 111 (0, 0)) (by simp)
  have k0 : w2.cell? ⟨w.heap.size + 1, 0, none⟩ = some (.slice none 0 0) := cell_of_get hb 0
  have kf := free_of_get hb
  have kl := lt_of_get hb
  have hO4 := (hO3.shuf [L', [_], F] [1, 0, 2] rfl rfl).setTo 0 (.slice a' xs.length c') rfl
  have r0 : (w2.setCell ⟨w.heap.size + 1, 0, none⟩ (.slice a' xs.length c')).cell? ⟨w.heap.size + 1, 0, none⟩ = some (.slice a' xs.length c') := cell_of_get hO4.head 0
  have HR0 := Lib.hid r0
  have HO4 := Lib.hid hO4.tail
  have HS' := Lib.hid hS'
  clear hb hO3 hO4 r0 hS'
  go_wp2
  have r0 := HR0.out
  exact bodyPost_ret (v := .agg #[.slice a' xs.length c']) (by simp [results, Try.results95, go_sem, r0]) rfl ⟨_, _, L', rfl, HS'.out, HO4.out⟩

def CClonePost (B : Nat) (w0 : World) (F : List (Nat × Obj)) (s : CS) (e : Ending) (w' : World) : Prop :=
  ∃ b' L', e = .returned (.pointer (some ⟨b', 0, none⟩)) ∧ Cx b' s L' ∧ Own B w0 w' (L' ++ F)

set_option maxRecDepth 100000 in
set_option maxHeartbeats 4000000 in
theorem cclone57 (B : Nat) (w0 : World) (b : Nat) (s : CS) (L F : List (Nat × Obj)) (w : World) (hX : Cx b s L) (hL : ∀ p ∈ L, p ∈ F) (hO : Own B w0 w F) :
    Calls Try.prog 57 #[.pointer (some ⟨b, 0, none⟩)] w (CClonePost B w0 F s) := by
  obtain ⟨v1, v2, v3, L1, L2, L3, hC, rfl⟩ := hX
  obtain ⟨a1, q1, rfl, _, _⟩ := hC.s1.form
  obtain ⟨a2, q2, rfl, _, _⟩ := hC.s2.form
  obtain ⟨a3, q3, rfl, _, _⟩ := hC.s3.form
  have l1 := hC.l1
  have l2 := hC.l2
  have l3 := hC.l3
  have hcb := hO.get (b, cobj s.room (.slice a1 s.vals.length q1) (.slice a2 s.snd.length q2) (.slice a3 s.rcv.length q3) s.shut) (hL _ List.mem_cons_self)
  have c0 : w.cell? ⟨b, 0, none⟩ = some (.bool true) := cell_of_get hcb 0
  have c1 : w.cell? ⟨b, 1, none⟩ = some (.int .i64 s.room) := cell_of_get hcb 1
  have c2 : w.cell? ⟨b, 2, none⟩ = some (.slice a1 s.vals.length q1) := cell_of_get hcb 2
  have c3 : w.cell? ⟨b, 3, none⟩ = some (.slice a2 s.snd.length q2) := cell_of_get hcb 3
  have c4 : w.cell? ⟨b, 4, none⟩ = some (.slice a3 s.rcv.length q3) := cell_of_get hcb 4
  have c5 : w.cell? ⟨b, 5, none⟩ = some (.bool s.shut) := cell_of_get hcb 5
  have cl := lt_of_get hcb
  have hOF := hO.allocAt (cobj s.room (.slice a1 s.vals.length q1) (.slice a2 s.snd.length q2) (.slice a3 s.rcv.length q3) s.shut) (n := w.heap.size) rfl
  have HL := Lib.hid hL
  have HC := Lib.hid hC
  clear hC hO hcb hL
  go_enter Try.func57, Try.ntmps57
  go_upto_region 4 with (go_at_call 88; refine (cnone b true _ c0).mono ?_; rintro e w' ⟨rfl, rfl⟩)
  obtain ⟨P, hPe⟩ : ∃ P, w.heap.size = P := ⟨_, rfl⟩
  rw [hPe] at hOF cl ⊢
  generalize w.alloc (.cells #[.bool true, .int .i64 s.room, .slice a1 s.vals.length q1, .slice a2 s.snd.length q2, .slice a3 s.rcv.length q3, .bool s.shut] 113) = W at hOF ⊢
  clear hPe c0 c1 c2 c3 c4 c5
  have hbP : b ≠ P := by omega
  have hPb : P ≠ b := fun e => hbP e.symm
  clear cl
  obtain ⟨Q, hQ⟩ : ∃ Q, (P, cobj s.room (.slice a1 s.vals.length q1) (.slice a2 s.snd.length q2) (.slice a3 s.rcv.length q3) s.shut) :: F = Q := ⟨_, rfl⟩
  have HQ := Lib.hid hQ
  have HPM := Lib.hid (show (P, cobj s.room (.slice a1 s.vals.length q1) (.slice a2 s.snd.length q2) (.slice a3 s.rcv.length q3) s.shut) ∈ Q by rw [← hQ]; exact List.mem_cons_self)
  have HBM := Lib.hid (show (b, cobj s.room (.slice a1 s.vals.length q1) (.slice a2 s.snd.length q2) (.slice a3 s.rcv.length q3) s.shut) ∈ Q by rw [← hQ]; exact List.mem_cons_of_mem _ (HL.out _ List.mem_cons_self))
  have HL1 := Lib.hid (show ∀ p ∈ L1, p ∈ Q from fun p hp => by rw [← hQ]; exact List.mem_cons_of_mem _ (HL.out p (by simp [hp])))
  have HL2 := Lib.hid (show ∀ p ∈ L2, p ∈ Q from fun p hp => by rw [← hQ]; exact List.mem_cons_of_mem _ (HL.out p (by simp [hp])))
  have HL3 := Lib.hid (show ∀ p ∈ L3, p ∈ Q from fun p hp => by rw [← hQ]; exact List.mem_cons_of_mem _ (HL.out p (by simp [hp])))
  rw [hQ] at hOF
  have hcb := hOF.get _ HBM.out
  have c2 : W.cell? ⟨b, 2, none⟩ = some (.slice a1 s.vals.length q1) := cell_of_get hcb 2
  have c3 : W.cell? ⟨b, 3, none⟩ = some (.slice a2 s.snd.length q2) := cell_of_get hcb 3
  have c4 : W.cell? ⟨b, 4, none⟩ = some (.slice a3 s.rcv.length q3) := cell_of_get hcb 4
  have hC := hOF.drew
  clear hQ hcb hOF
  go_region_held3 (fun w' => w'.cell? ⟨b, 2, none⟩ = some (.slice a1 s.vals.length q1) ∧ w'.cell? ⟨b, 3, none⟩ = some (.slice a2 s.snd.length q2) ∧ w'.cell? ⟨b, 4, none⟩ = some (.slice a3 s.rcv.length q3))
    (first
      | with_reducible exact ⟨k2, k3, k4⟩
      | (go_keep; done)
      | fail "no keep")
    (first
      | (go_at_call 94; (with_reducible refine (qclone94 B w0 _ s.vals a1 _ q1 L1 _ HC.out.s1 (fun p hp => by simp [HL1.out p hp]) hC (by omega)).mono ?_); rintro e w1 ⟨b1, e1, M1, rfl, hT1, hC⟩; have hcb := hC.get _ (show (b, cobj s.room (.slice a1 s.vals.length q1) (.slice a2 s.snd.length q2) (.slice a3 s.rcv.length q3) s.shut) ∈ _ from (by simp [HBM.out])); have k2 : w1.cell? ⟨b, 2, none⟩ = some (.slice a1 s.vals.length q1) := cell_of_get hcb 2; have k3 : w1.cell? ⟨b, 3, none⟩ = some (.slice a2 s.snd.length q2) := cell_of_get hcb 3; have k4 : w1.cell? ⟨b, 4, none⟩ = some (.slice a3 s.rcv.length q3) := cell_of_get hcb 4; have hP := hC.get _ (show (P, cobj s.room (.slice a1 s.vals.length q1) (.slice a2 s.snd.length q2) (.slice a3 s.rcv.length q3) s.shut) ∈ _ from (by simp [HPM.out])); have p2 : w1.cell? ⟨P, 2, none⟩ = some (.slice a1 s.vals.length q1) := cell_of_get hP 2; have p3 : w1.cell? ⟨P, 3, none⟩ = some (.slice a2 s.snd.length q2) := cell_of_get hP 3; have p4 : w1.cell? ⟨P, 4, none⟩ = some (.slice a3 s.rcv.length q3) := cell_of_get hP 4; have pf := free_of_get hP; have pl := lt_of_get hP; clear hcb hP)
      | (go_at_call 95; (with_reducible refine (qclone95 B w0 _ s.snd a2 _ q2 L2 _ HC.out.s2 (fun p hp => by simp [HL2.out p hp]) hC (by omega)).mono ?_); rintro e w2 ⟨b2, e2, M2, rfl, hT2, hC⟩; have hcb := hC.get _ (show (b, cobj s.room (.slice a1 s.vals.length q1) (.slice a2 s.snd.length q2) (.slice a3 s.rcv.length q3) s.shut) ∈ _ from (by simp [HBM.out])); have k2 : w2.cell? ⟨b, 2, none⟩ = some (.slice a1 s.vals.length q1) := cell_of_get hcb 2; have k3 : w2.cell? ⟨b, 3, none⟩ = some (.slice a2 s.snd.length q2) := cell_of_get hcb 3; have k4 : w2.cell? ⟨b, 4, none⟩ = some (.slice a3 s.rcv.length q3) := cell_of_get hcb 4; have hP := hC.get _ (show (P, cobj s.room (.slice a1 s.vals.length q1) (.slice a2 s.snd.length q2) (.slice a3 s.rcv.length q3) s.shut) ∈ _ from (by simp [HPM.out])); have p2 : w2.cell? ⟨P, 2, none⟩ = some (.slice a1 s.vals.length q1) := cell_of_get hP 2; have p3 : w2.cell? ⟨P, 3, none⟩ = some (.slice a2 s.snd.length q2) := cell_of_get hP 3; have p4 : w2.cell? ⟨P, 4, none⟩ = some (.slice a3 s.rcv.length q3) := cell_of_get hP 4; have pf := free_of_get hP; have pl := lt_of_get hP; clear hcb hP)
      | (go_at_call 95; (with_reducible refine (qclone95 B w0 _ s.rcv a3 _ q3 L3 _ HC.out.s3 (fun p hp => by simp [HL3.out p hp]) hC (by omega)).mono ?_); rintro e w3 ⟨b3, e3, M3, rfl, hT3, hC⟩; have hcb := hC.get _ (show (b, cobj s.room (.slice a1 s.vals.length q1) (.slice a2 s.snd.length q2) (.slice a3 s.rcv.length q3) s.shut) ∈ _ from (by simp [HBM.out])); have k2 : w3.cell? ⟨b, 2, none⟩ = some (.slice a1 s.vals.length q1) := cell_of_get hcb 2; have k3 : w3.cell? ⟨b, 3, none⟩ = some (.slice a2 s.snd.length q2) := cell_of_get hcb 3; have k4 : w3.cell? ⟨b, 4, none⟩ = some (.slice a3 s.rcv.length q3) := cell_of_get hcb 4; have hP := hC.get _ (show (P, cobj s.room (.slice a1 s.vals.length q1) (.slice a2 s.snd.length q2) (.slice a3 s.rcv.length q3) s.shut) ∈ _ from (by simp [HPM.out])); have p2 : w3.cell? ⟨P, 2, none⟩ = some (.slice a1 s.vals.length q1) := cell_of_get hP 2; have p3 : w3.cell? ⟨P, 3, none⟩ = some (.slice a2 s.snd.length q2) := cell_of_get hP 3; have p4 : w3.cell? ⟨P, 4, none⟩ = some (.slice a3 s.rcv.length q3) := cell_of_get hP 4; have pf := free_of_get hP; have pl := lt_of_get hP; clear hcb hP)
      | fail "no arm")
  all_goals
    have hD : Own B w0 _ (M1 ++ (M2 ++ (M3 ++ Q))) := (by first | exact hC.shuf [M1, M2, M3, Q] [0, 1, 2, 3] rfl rfl | exact hC.shuf [M1, M3, M2, Q] [0, 2, 1, 3] rfl rfl | exact hC.shuf [M2, M1, M3, Q] [1, 0, 2, 3] rfl rfl | exact hC.shuf [M2, M3, M1, Q] [2, 0, 1, 3] rfl rfl | exact hC.shuf [M3, M1, M2, Q] [1, 2, 0, 3] rfl rfl | exact hC.shuf [M3, M2, M1, Q] [2, 1, 0, 3] rfl rfl)
    rw [← HQ.out] at hD
    have hE := ((((hD.shuf [M1, M2, M3, [_], F] [3, 0, 1, 2, 4] rfl rfl).setTo 2 (.slice b1 s.vals.length e1) rfl).setTo 3 (.slice b2 s.snd.length e2) rfl).setTo 4 (.slice b3 s.rcv.length e3) rfl)
    have HE := Lib.hid (own_pack (L1 := M1) (L2 := M2) (L3 := M3) (R := F) hE)
    have HT1 := Lib.hid hT1
    have HT2 := Lib.hid hT2
    have HT3 := Lib.hid hT3
    clear hC hD hE hT1 hT2 hT3
    go_wp2
    go_ret
    exact ⟨P, _, rfl, ⟨_, _, _, M1, M2, M3, ⟨HT1.out, HT2.out, HT3.out, HC.out.l1, HC.out.l2, HC.out.l3, HC.out.r0, HC.out.r1⟩, rfl⟩, HE.out⟩

theorem rd_c2 {w : World} {v : Value} {xs : List V2} (h : Rd w C2 v xs) : ∃ ao cap, v = .slice ao xs.length cap ∧ ∀ i (hi : i < xs.length), ∃ g off, ao = some ⟨g, off, none⟩ ∧ g < w.heap.size ∧ w.cell? ⟨g, off + i * 2, none⟩ = some (.int .i64 xs[i].t) ∧ w.cell? ⟨g, off + i * 2 + 1, none⟩ = some (.int .i64 xs[i].n) := by
  rcases h with ⟨rfl, ao, cap, rfl⟩ | ⟨g, off, cap, rfl, hc⟩
  · exact ⟨ao, cap, rfl, fun i hi => by simp at hi⟩
  · refine ⟨_, cap, rfl, fun i hi => ?_⟩
    have h0 := hc (i * 2 + 0) (.int .i64 xs[i].t) (by rw [flatMap_get C2_len xs i 0 (by omega), List.getElem?_eq_getElem hi]; rfl)
    have h1 := hc (i * 2 + 1) (.int .i64 xs[i].n) (by rw [flatMap_get C2_len xs i 1 (by omega), List.getElem?_eq_getElem hi]; rfl)
    rw [← Nat.add_assoc] at h0 h1
    exact ⟨g, off, rfl, World.block_lt_of_cell? _ _ h0, h0, h1⟩

set_option maxRecDepth 100000 in
set_option maxHeartbeats 1000000 in
theorem equal100 (B : Nat) (w0 : World) (F : List (Nat × Obj)) (xs : List V2) (v1 v2 : Value) (w : World) (h1 : Rd w C2 v1 xs) (h2 : Rd w C2 v2 xs) (hO : Own B w0 w F) (hx : xs.length ≤ 100000) :
    Calls Try.prog 100 #[v1, v2] w (BoolD B w0 F true) := by
  obtain ⟨a1, c1, rfl, r1⟩ := rd_c2 h1
  obtain ⟨a2, c2, rfl, r2⟩ := rd_c2 h2
  clear h1 h2
  have R1 := Lib.hid r1
  have R2 := Lib.hid r2
  clear r1 r2
  go_enter Try.func100, Try.ntmps100
  go_wp2
  go_loopw [5, 13] (fun _ i wr => ∃ k : Nat, k ≤ xs.length ∧ i = .int .i64 k ∧ ∃ q, wr = w.drewN q) (fun _ i _ => xs.length - (intOf i).toNat)
  case atStart => exact ⟨0, Nat.zero_le _, rfl, 0, rfl⟩
  case round =>
    obtain ⟨k, hk, rfl, q, rfl⟩ := hrel
    by_cases hlt : k < xs.length
    · obtain ⟨g1, o1, rfl, l1, d0, d1⟩ := R1.out k hlt
      obtain ⟨g2, o2, rfl, l2, e0, e1⟩ := R2.out k hlt
      have hk0 : (0 : Int) ≤ k := by omega
      have hk1 : (k : Int) < xs.length := by omega
      obtain ⟨⟨t, n⟩, hxk⟩ : ∃ x, xs[k] = x := ⟨_, rfl⟩
      rw [hxk] at d0 d1 e0 e1
      dsimp only at d0 d1 e0 e1
      clear hxk
      go_wp2
      go_region
      all_goals
        go_wp2
        go_roundw
        case rel => exact ⟨k + 1, by omega, by go_num, q + 1, rfl⟩
        case measure => simp [intOf]; omega
    · go_wp2
      go_ret
      exact ⟨rfl, hO.drewN q⟩

end Go.Proofs.Ytidnkienkdlmkaa
