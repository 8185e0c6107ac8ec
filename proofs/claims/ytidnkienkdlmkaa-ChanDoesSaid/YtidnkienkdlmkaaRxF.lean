/-
  shuttlelaw15.same: the channel and the document's, in one state, are the same. Conditions: at most 64 values, 256 waiters.
-/
import Derived.Test.YtidnkienkdlmkaaRxE
import Derived.Test.YtidnkienkdlmkaaChTold
import Derived.Test.YtidnkienkdlmkaaChAwake
import Derived.Test.YtidnkienkdlmkaaMxDoes
import Derived.Deep.RegionHeld3
import Derived.Deep.DrawnRows
import Derived.Carry
namespace Go.Proofs.Ytidnkienkdlmkaa
open Go.RowKit Go.Sh
attribute [local go_sem ↓] Go.wp_at_zero Go.wp_at_succ

theorem sl_take {α : Type} {e : TypeId} {k : Nat} {enc : α → List Value} (hk : ∀ x, (enc x).length = k) {a : Option Addr} {n c : Nat} {xs : List α} {L : List (Nat × Obj)} (h : Sl e k enc (.slice a n c) xs L) (i : Nat) (hi : i ≤ n) : Sl e k enc (.slice a i c) (xs.take i) L := by
  rcases h with ⟨h, rfl, rfl⟩ | ⟨g, off, cap, cur, h, rfl, h1, h2, h3, h4⟩
  · simp only [Value.slice.injEq] at h
    obtain ⟨rfl, rfl, rfl⟩ := h
    obtain rfl : i = 0 := by omega
    simpa using Sl.nil
  · simp only [Value.slice.injEq] at h
    obtain ⟨ha, hn, hc⟩ := h
    rw [ha, hc]
    have h' : Sl e k enc (.slice (some ⟨g, off, none⟩) xs.length cap) xs [(g, Obj.cells cur e (0, 0))] := .inr ⟨g, off, cap, cur, rfl, rfl, h1, h2, h3, h4⟩
    exact h'.take hk i (by omega)

theorem told_all (B : Nat) (w0 : World) (F : List (Nat × Obj)) (b : Nat) (s : CS) (L : List (Nat × Obj)) (Bp : Nat) (w : World) (hX : Cx b s L) (hO : Sh.Own B w0 w F) (hL : ∀ p ∈ L, p ∈ F) (hl : s.vals.length ≤ 64)
    (hBp : w.cell? ⟨Bp, 0, none⟩ = some (.pointer (some ⟨b, 0, none⟩))) :
    Calls Try.prog 46 #[.func (.func 87) #[] #[.pointer (some ⟨Bp, 0, none⟩)], .int .i64 1048576] w (NewSl 30 2 C2 B w0 F s.vals) := by
  have h := told46 B w0 F b s L Bp 1048576 w hX hO hL hBp
  rw [List.take_of_length_le (by omega)] at h
  exact h

theorem told_one (B : Nat) (w0 : World) (F : List (Nat × Obj)) (b : Nat) (s : CS) (L : List (Nat × Obj)) (Bp m : Nat) (w : World) (hX : Cx b s L) (hO : Sh.Own B w0 w F) (hL : ∀ p ∈ L, p ∈ F) (hm : s.vals.take 1 = s.vals.take m)
    (hBp : w.cell? ⟨Bp, 0, none⟩ = some (.pointer (some ⟨b, 0, none⟩))) :
    Calls Try.prog 46 #[.func (.func 87) #[] #[.pointer (some ⟨Bp, 0, none⟩)], .int .i64 1] w (NewSl 30 2 C2 B w0 F (s.vals.take m)) := by
  have h := told46 B w0 F b s L Bp 1 w hX hO hL hBp
  rw [hm] at h
  exact h

set_option maxRecDepth 100000 in
set_option maxHeartbeats 8000000 in
theorem same60 (B : Nat) (w0 : World) (b br : Nat) (s : CS) (L Lr F : List (Nat × Obj)) (w : World) (hX : Cx b s L) (hR : Rcx br s Lr) (hL : ∀ p ∈ L, p ∈ F) (hLr : ∀ p ∈ Lr, p ∈ F) (hO : Sh.Own B w0 w F) :
    Calls Try.prog 60 #[.pointer (some ⟨b, 0, none⟩), .pointer (some ⟨br, 0, none⟩)] w (BoolD B w0 F true) := by
  obtain ⟨l1, l2, l3, _, _⟩ := hR.len
  obtain ⟨v1, v2, v3, L1, L2, L3, hC, rfl⟩ := hR
  obtain ⟨a1, q1, rfl, hq1, _⟩ := hC.s1.form
  obtain ⟨m, hm1, hm2, hmin⟩ : ∃ m : Nat, m ≤ s.vals.length ∧ m = min 1 s.vals.length ∧ (if (s.vals.length : Int) < 1 then (s.vals.length : Int) else 1) = (m : Int) := ⟨min 1 s.vals.length, by omega, rfl, by split <;> omega⟩
  have HT1 := Lib.hid (sl_take C2_len hC.s1 m (by omega))
  have HTK := Lib.hid (show s.vals.take 1 = s.vals.take m by
    rw [hm2]
    by_cases h : s.vals.length = 0
    · rw [List.eq_nil_of_length_eq_zero h]; rfl
    · rw [Nat.min_eq_left (by omega)])
  have LV2 := Lib.hid l1
  have LV := Lib.hid (show s.vals.length ≤ 100000 by omega)
  have LM := Lib.hid (show (s.vals.take m).length ≤ 100000 by simp; omega)
  have LS := Lib.hid (show (s.snd.map W3.who).length ≤ 100000 by simp; omega)
  have LR := Lib.hid (show (s.rcv.map W3.who).length ≤ 100000 by simp; omega)
  have LS1 := Lib.hid (show s.snd.length ≤ 1000 by omega)
  have LR1 := Lib.hid (show s.rcv.length ≤ 1000 by omega)
  have hm0 : (0 : Int) ≤ m := by omega
  have hms : (m : Int) ≤ q1 := by omega
  have hmt : m ≤ q1 := by omega
  have HC := Lib.hid hC
  have HX := Lib.hid hX
  have HL := Lib.hid hL
  have HBR := Lib.hid (show (br, rcobj s.room (.slice a1 s.vals.length q1) v2 v3 s.shut) ∈ F from hLr _ List.mem_cons_self)
  have HL1 := Lib.hid (show ∀ p ∈ L1, p ∈ F from fun p hp => hLr p (by simp [hp]))
  have HL2 := Lib.hid (show ∀ p ∈ L2, p ∈ F from fun p hp => hLr p (by simp [hp]))
  have HL3 := Lib.hid (show ∀ p ∈ L3, p ∈ F from fun p hp => hLr p (by simp [hp]))
  have HS := Lib.hid (show ∀ w' Y, Sh.Own B w0 w' Y → (br, rcobj s.room (.slice a1 s.vals.length q1) v2 v3 s.shut) ∈ Y → (w'.cell? ⟨br, 0, none⟩ = some (.int .i64 s.room) ∧ w'.cell? ⟨br, 1, none⟩ = some (.slice a1 s.vals.length q1) ∧ w'.cell? ⟨br, 2, none⟩ = some v2 ∧ w'.cell? ⟨br, 3, none⟩ = some v3 ∧ w'.cell? ⟨br, 4, none⟩ = some (.bool s.shut)) from fun w' Y h hm => rc5 (h.get _ hm))
  obtain ⟨c0, c1, c2, c3, c4⟩ := HS.out w F hO HBR.out
  have hC := hO.drew
  have HO0 := Lib.hid hO
  clear hX hL hLr hm2 hO
  go_enter Try.func60, Try.ntmps60
  go_wp2
  simp only [List.append_eq, List.cons_append, List.nil_append]
  go_region_held3 (fun w' => w'.cell? ⟨br, 0, none⟩ = some (.int .i64 s.room) ∧ w'.cell? ⟨br, 1, none⟩ = some (.slice a1 s.vals.length q1) ∧ w'.cell? ⟨br, 2, none⟩ = some v2 ∧ w'.cell? ⟨br, 3, none⟩ = some v3 ∧ w'.cell? ⟨br, 4, none⟩ = some (.bool s.shut))
    (first
      | with_reducible exact hS
      | (go_keep; done)
      | fail "no keep")
    (first
      | (go_at_call 20; (with_reducible refine (equal20_same B w0 _ (s.rcv.map W3.who) _ _ _ (Sl_rd hT3 (fun p hp => hC.get p (by simp [hp]))) (Sl_rd hT4 (fun p hp => hC.get p (by simp [hp]))) hC LR.out).mono ?_); rintro e w12 ⟨rfl, hC⟩; have hC := hC.right.right; have hS := HS.out _ _ hC (by simp [HBR.out]))
      | (go_at_call 20; (with_reducible refine (equal20_same B w0 _ (s.snd.map W3.who) _ _ _ (Sl_rd hT1 (fun p hp => hC.get p (by simp [hp]))) (Sl_rd hT2 (fun p hp => hC.get p (by simp [hp]))) hC LS.out).mono ?_); rintro e w9 ⟨rfl, hC⟩; have hC := hC.right.right; have hS := HS.out _ _ hC (by simp [HBR.out]))
      | (go_at_call 101; (with_reducible refine (rcwho101 B w0 _ s.rcv v3 L3 _ HC.out.s3 (fun p hp => by simp [HL3.out p hp]) hC LR1.out).mono ?_); rintro e w11 ⟨x4, N4, rfl, hT4, hC⟩; have hS := HS.out _ _ hC (by simp [HBR.out]))
      | (go_at_call 101; (with_reducible refine (rcwho101 B w0 _ s.snd v2 L2 _ HC.out.s2 (fun p hp => by simp [HL2.out p hp]) hC LS1.out).mono ?_); rintro e w8 ⟨x2, N2, rfl, hT2, hC⟩; have hS := HS.out _ _ hC (by simp [HBR.out]))
      | (go_at_call 52; (with_reducible refine (creceivers B w0 _ b s L _ HX.out (fun p hp => by simp [HL.out p hp]) hC).mono ?_); rintro e w10 ⟨x3, N3, rfl, hT3, hC⟩; have hS := HS.out _ _ hC (by simp [HBR.out]))
      | (go_at_call 48; (with_reducible refine (csenders B w0 _ b s L _ HX.out (fun p hp => by simp [HL.out p hp]) hC).mono ?_); rintro e w7 ⟨x1, N1, rfl, hT1, hC⟩; have hS := HS.out _ _ hC (by simp [HBR.out]))
      | (go_at_call 100; (with_reducible refine (equal100 B w0 _ (s.vals.take m) _ _ _ (Sl_rd hV2 (fun p hp => hC.get p (by simp [hp]))) (Sl_rd HT1.out (fun p hp => hC.get p (by simp [HL1.out p hp]))) hC LM.out).mono ?_); rintro e w6 ⟨rfl, hC⟩; have hC := hC.right; have hS := HS.out _ _ hC (by simp [HBR.out]))
      | (go_at_call 100; (with_reducible refine (equal100 B w0 _ s.vals _ _ _ (Sl_rd hV1 (fun p hp => hC.get p (by simp [hp]))) (Sl_rd HC.out.s1 (fun p hp => hC.get p (by simp [HL1.out p hp]))) hC LV.out).mono ?_); rintro e w3 ⟨rfl, hC⟩; have hC := hC.right; have hS := HS.out _ _ hC (by simp [HBR.out]))
      | (go_at_call 46; (with_reducible refine (told_one B w0 F b s L _ m _ HX.out hC HL.out HTK.out (by simp)).mono ?_); rintro e w5 ⟨u2, M2, rfl, hV2, hC⟩; have hS := HS.out _ _ hC (by simp [HBR.out]))
      | (go_at_call 46; (with_reducible refine (told_all B w0 F b s L _ _ HX.out hC HL.out LV2.out (by simp)).mono ?_); rintro e w2 ⟨u1, M1, rfl, hV1, hC⟩; have hS := HS.out _ _ hC (by simp [HBR.out]))
      | (go_at_call 47; (with_reducible refine (all47 (some ⟨b, 0, none⟩) w.drew).mono ?_); rintro e w1 ⟨rfl, rfl⟩; have hC := (HO0.out.junk (.cells #[.pointer (some ⟨b, 0, none⟩)] 91)).drew; have hS := HS.out _ _ hC (by simp [HBR.out]))
      | (go_at_call 47; (with_reducible refine (all47 (some ⟨b, 0, none⟩) _).mono ?_); rintro e w1 ⟨rfl, rfl⟩; have hC := hC.junk (.cells #[.pointer (some ⟨b, 0, none⟩)] 91); have hS := HS.out _ _ hC (by simp [HBR.out]))
      | (go_at_call 53; (with_reducible refine (clen b s L _ HX.out (fun p hp => hC.get p (HL.out p hp))).mono ?_); rintro e w' ⟨rfl, rfl⟩)
      | (go_at_call 54; (with_reducible refine (croom b s L _ HX.out (fun p hp => hC.get p (HL.out p hp))).mono ?_); rintro e w' ⟨rfl, rfl⟩)
      | (go_at_call 55; (with_reducible refine (cclosed b s L _ HX.out (fun p hp => hC.get p (HL.out p hp))).mono ?_); rintro e w' ⟨rfl, rfl⟩)
      | fail "no arm")
  all_goals
    have HF := Lib.hid hC
    clear hC
    go_wp2
    go_ret
    exact ⟨rfl, HF.out⟩

end Go.Proofs.Ytidnkienkdlmkaa
