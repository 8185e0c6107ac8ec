/-
  The walk of shuttlelaw15.ChanDoes: it returns true. No condition.
-/
import Derived.Test.YtidnkienkdlmkaaRxF
import Derived.Test.YtidnkienkdlmkaaRxG
import Derived.Carry
namespace Go.Proofs.Ytidnkienkdlmkaa
open Go.RowKit Go.Sh

def CDRel (B : Nat) (w0 : World) (br N : Nat) (c i : Value) (wr : World) : Prop :=
  ∃ (k b : Nat) (s : CS) (L Lr : List (Nat × Obj)), k ≤ N ∧ i = .int .i64 k ∧ c = .pointer (some ⟨b, 0, none⟩) ∧ Cx b s L ∧ Rcx br s Lr ∧ Sh.Own B w0 wr (L ++ Lr)

theorem actC_four (s : CS) (who n : Int) : actC s 4 who n = s := rfl

set_option maxRecDepth 100000 in
set_option maxHeartbeats 1000000 in
theorem cdoes14_bad (room : Int) (xs : List W3) (ao : Option Addr) (cap : Nat) (w : World) (hb : room < 0 ∨ 64 < room) :
    Calls Try.prog 14 #[.int .i64 room, .slice ao xs.length cap] w fun e w' => e = .returned (.bool true) ∧ Below w.heap.size w w' := by
  have HO0 := Lib.hid (Own.start w)
  have HB := Lib.hid hb
  clear hb
  go_enter Try.func14, Try.ntmps14
  go_wp2_with (first | (go_at_call 41; refine (cnew41_bad room _ HB.out).mono ?_; rintro e w' ⟨rfl, rfl⟩) | (go_at_call 58; refine (rcnew58_bad room _ HB.out).mono ?_; rintro e w' ⟨rfl, rfl⟩) | (go_at_call 42; refine (awake42 w.heap.size w _ _ HO0.out).mono ?_; rintro e w2 ⟨rfl, hO2⟩))
  go_ret
  exact ⟨rfl, hO2.below⟩

set_option maxRecDepth 100000 in
set_option maxHeartbeats 8000000 in
theorem cdoes14_ok (room : Int) (xs : List W3) (ao : Option Addr) (cap : Nat) (w : World) (hR : Rd w C3 (.slice ao xs.length cap) xs) (hx : xs.length ≤ 9223372036854775807) (hcap : xs.length ≤ cap) (h0 : 0 ≤ room) (h1 : room ≤ 64) :
    Calls Try.prog 14 #[.int .i64 room, .slice ao xs.length cap] w fun e w' => e = .returned (.bool true) ∧ Below w.heap.size w w' := by
  obtain ⟨ao', cap', he, r1⟩ := rd_c3 hR
  simp only [Value.slice.injEq, true_and] at he
  obtain ⟨rfl, rfl⟩ := he
  have R1 := Lib.hid r1
  obtain ⟨N, hN1, hN2, hmin⟩ : ∃ N : Nat, N ≤ xs.length ∧ N ≤ 80 ∧ (if (80 : Int) < (xs.length : Int) then 80 else (xs.length : Int)) = (N : Int) := ⟨min xs.length 80, by omega, by omega, by split <;> omega⟩
  clear hR r1
  have hO1 := ((Own.start w).allocAt (cobj room (.slice none 0 0) (.slice none 0 0) (.slice none 0 0) false) (n := w.heap.size) rfl).allocAt (rcobj room (.slice none 0 0) (.slice none 0 0) (.slice none 0 0) false) (n := w.heap.size + 1) (by simp)
  have HX := Lib.hid (Cx.new w.heap.size room h0 h1)
  have HR := Lib.hid (Rcx.new (w.heap.size + 1) room h0 h1)
  have HO1 := Lib.hid (hO1.shuf [[_], [_]] [1, 0] rfl rfl)
  have H0 := Lib.hid h0
  have H1 := Lib.hid h1
  clear hO1 h0 h1
  go_enter Try.func14, Try.ntmps14
  go_wp2_with (first | (go_at_call 41; refine (cnew41 room _ H0.out H1.out).mono ?_; rintro e w' ⟨rfl, rfl⟩) | (go_at_call 58; refine (rcnew58 room _ H0.out H1.out).mono ?_; rintro e w' ⟨rfl, rfl⟩))
  refine (awake42 w.heap.size w _ _ HO1.out).mono ?_
  rintro e w2 ⟨rfl, hO2⟩
  have HO2 := Lib.hid hO2
  clear hO2 HO1 H0 H1
  go_wp2
  clear hmin
  go_loopw [5, 44] (fun c i wr => CDRel w.heap.size w (w.heap.size + 1) N c i wr) (fun _ i _ => N - (intOf i).toNat)
  case atStart => exact ⟨0, w.heap.size, csNew room, [_], [_], Nat.zero_le _, rfl, rfl, HX.out, HR.out, HO2.out⟩
  case round =>
    clear HO2 HX HR
    obtain ⟨br, hbr⟩ : ∃ br, w.heap.size + 1 = br := ⟨_, rfl⟩
    rw [hbr] at hrel ⊢
    clear hbr
    obtain ⟨k, b, s, L, Lr, hk, rfl, rfl, hX, hRx, hO⟩ := hrel
    by_cases hlt : k < N
    · obtain ⟨g, off, rfl, hgl, e0, e1, e2⟩ := R1.out k (by omega)
      have c0 := (hO.below.cell (p := ⟨g, off + k * 3, none⟩) hgl).trans e0
      have c1 := (hO.below.cell (p := ⟨g, off + k * 3 + 1, none⟩) hgl).trans e1
      have c2 := (hO.below.cell (p := ⟨g, off + k * 3 + 2, none⟩) hgl).trans e2
      have hkx : k < xs.length := by omega
      clear e0 e1 e2
      obtain ⟨⟨d, who, n⟩, hop⟩ : ∃ x, xs[k] = x := ⟨_, rfl⟩
      rw [hop] at c0 c1 c2
      dsimp only at c0 c1 c2
      clear hop
      obtain ⟨O, hOe⟩ : ∃ O, wr.heap.size = O := ⟨_, rfl⟩
      have HO4 := Lib.hid ((hO.allocAt (ob96 d who n) (n := O) hOe).shuf [[_], L, Lr] [1, 2, 0] rfl rfl)
      obtain ⟨s', hs'⟩ : ∃ s', actC s d who n = s' := ⟨_, rfl⟩
      have HS := Lib.hid hs'
      have HX := Lib.hid hX
      have HR := Lib.hid hRx
      clear hO hX hRx hs'
      go_wp2_with fail
      refine (cdoes59 w.heap.size w b br s L Lr _ d who n _ HX.out HR.out HO4.out).mono ?_
      rw [HS.out]
      rintro e w3 ⟨rfl, L1, Lr1, hX1, hR1, hO5⟩
      have HX1 := Lib.hid hX1
      have HR1 := Lib.hid hR1
      have HO5 := Lib.hid hO5
      clear hX1 hR1 hO5 c0 c1 c2 HX HR HO4 hOe
      go_wp2_with fail
      refine (same60 w.heap.size w b br s' L1 Lr1 _ _ HX1.out HR1.out (fun p hp => List.mem_append_left _ hp) (fun p hp => List.mem_append_right _ (List.mem_append_left _ hp)) HO5.out).mono ?_
      rintro e w4 ⟨rfl, hO6⟩
      obtain ⟨k0, k1, k2⟩ := ob3 (hO6.get (O, ob96 d who n) (by simp [cat]))
      have kl := lt_of_get (hO6.get (O, ob96 d who n) (by simp [cat]))
      have HO6 := Lib.hid hO6
      clear hO6 HO5
      by_cases hd : d = 4
      · subst hd
        have hss : s' = s := by rw [← HS.out]; rfl
        go_wp2_with fail
        refine (cclone57 w.heap.size w b s' L1 _ _ HX1.out (fun p hp => List.mem_append_left _ hp) HO6.out).mono ?_
        rintro e w5 ⟨b2, L2, rfl, hX2, hO7⟩
        have HX2 := Lib.hid hX2
        obtain ⟨k0, k1, k2⟩ := ob3 (hO7.get (O, ob96 4 who n) (by simp [cat]))
        have kl := lt_of_get (hO7.get (O, ob96 4 who n) (by simp [cat]))
        have HO7 := Lib.hid ((hO7.shuf [L2, L1, Lr1, [_]] [1, 0, 2, 3] rfl rfl).junk (ob96 4 who n) |>.junk (box30 ⟨1, n⟩))
        clear hX2 hO7 HO6 hss
        go_wp2_with (go_at_call 49; refine (value49 4 who n _).mono ?_; rintro e w' ⟨rfl, rfl⟩)
        refine (csend w.heap.size w b s' L1 _ 77 ⟨1, n⟩ _ HX1.out HO7.out).mono ?_
        rintro e w6 ⟨wk6, Lk6, L6, rfl, hk6, hX6, hO8⟩
        obtain ⟨a6, c6, rfl, _, _⟩ := hk6.form
        have HX6 := Lib.hid hX6
        have HO8 := Lib.hid hO8
        clear hk6 hX6 hO8 HO7 k0 k1 k2 kl
        go_wp2_with fail
        refine (crecv w.heap.size w b _ L6 _ 78 _ HX6.out HO8.out).mono ?_
        rintro e w7 ⟨wk7, Lk7, L7, rfl, hk7, hX7, hO9⟩
        obtain ⟨a7, c7, rfl, _, _⟩ := hk7.form
        have HX7 := Lib.hid hX7
        have HO9 := Lib.hid hO9
        clear hk7 hX7 hO9 HO8
        go_wp2_with fail
        refine (cclose w.heap.size w b _ L7 _ _ HX7.out HO9.out).mono ?_
        rintro e w8 ⟨wk8, Lk8, L8, rfl, hk8, hX8, hO10⟩
        obtain ⟨a8, c8, rfl, _, _⟩ := hk8.form
        have HO11 := Lib.hid (show Sh.Own w.heap.size w w8 ((L2 ++ Lr1) ++ ([(O, ob96 4 who n)] ++ (L8 ++ (Lk8 ++ (Lk7 ++ Lk6))))) from by simpa [cat, List.append_assoc] using hO10.shuf [L8, Lk8, Lk7, Lk6, L2, Lr1, [_]] [4, 5, 6, 0, 1, 2, 3] rfl rfl).left
        clear hk8 hX8 hO10 HO9
        go_wp2
        exact ⟨⟨k + 1, b2, s', L2, Lr1, by omega, by go_num, rfl, HX2.out, HR1.out, HO11.out⟩, by simp [intOf]; omega⟩
      · have hdb : (d != 4) = true := by simp [hd]
        have HO7 := Lib.hid (show Sh.Own w.heap.size w w4 ((L1 ++ Lr1) ++ [(O, ob96 d who n)]) from by simpa [cat, List.append_assoc] using HO6.out).left
        clear HO6 hd
        go_wp2
        exact ⟨⟨k + 1, b, s', L1, Lr1, by omega, by go_num, rfl, HX1.out, HR1.out, HO7.out⟩, by simp [intOf]; omega⟩
    · obtain rfl : k = N := by omega
      have HX1 := Lib.hid hX
      have HR1 := Lib.hid hRx
      have HO5 := Lib.hid hO
      clear hX hRx hO
      go_wp2_with fail
      refine (same60 w.heap.size w b br s L Lr _ _ HX1.out HR1.out (fun p hp => List.mem_append_left _ hp) (fun p hp => List.mem_append_right _ hp) HO5.out).mono ?_
      rintro e w4 ⟨rfl, hO6⟩
      go_wp2
      go_ret
      exact ⟨rfl, hO6.below⟩

theorem cdoes14 (room : Int) (xs : List W3) (ao : Option Addr) (cap : Nat) (w : World) (_ : (Lit.int .i64 room).wf = true) (hR : Rd w C3 (.slice ao xs.length cap) xs) (_ : ∀ x ∈ xs, True) (hx : xs.length ≤ 9223372036854775807) (hcap : xs.length ≤ cap) :
    Calls Try.prog 14 #[.int .i64 room, .slice ao xs.length cap] w fun e w' => e = .returned (.bool true) ∧ Below w.heap.size w w' := by
  by_cases h : room < 0 ∨ 64 < room
  · exact cdoes14_bad room xs ao cap w h
  · exact cdoes14_ok room xs ao cap w hR hx hcap (by omega) (by omega)

end Go.Proofs.Ytidnkienkdlmkaa
