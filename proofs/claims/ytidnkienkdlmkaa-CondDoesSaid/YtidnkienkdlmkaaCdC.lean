/-
  cond with two mutexes: the state, and what lies in memory; contract of on. Condition: few waiters.
-/
import Derived.Test.YtidnkienkdlmkaaCdB
import Derived.Test.YtidnkienkdlmkaaChSend
namespace Go.Proofs.Ytidnkienkdlmkaa
open Go.RowKit Go.Sh

/-- Who waits, and for which of two mutexes; who has each, and who waits for it. -/
structure KS : Type where
  q : List (Int × Bool)
  o0 : Option Int
  ws0 : List Int
  o1 : Option Int
  ws1 : List Int

def KS.own (s : KS) (m : Bool) : Option Int := if m then s.o1 else s.o0
def KS.ws (s : KS) (m : Bool) : List Int := if m then s.ws1 else s.ws0
def KS.put (s : KS) (m : Bool) (o : Option Int) (ws : List Int) : KS := if m then ⟨s.q, s.o0, s.ws0, o, ws⟩ else ⟨s.q, o, ws, s.o1, s.ws1⟩
def KS.withQ (s : KS) (q : List (Int × Bool)) : KS := ⟨q, s.o0, s.ws0, s.o1, s.ws1⟩
def mb (b0 b1 : Nat) (m : Bool) : Nat := if m then b1 else b0
def encQ (b0 b1 : Nat) (q : List (Int × Bool)) : List WC := q.map fun x => ⟨x.1, mb b0 b1 x.2⟩

def Kw (bc b0 b1 : Nat) (s : KS) (L : List (Nat × Obj)) : Prop :=
  ∃ Lc L0 L1, L = Lc ++ (L0 ++ L1) ∧ Kx bc (encQ b0 b1 s.q) Lc ∧ Mx b0 s.o0 s.ws0 L0 ∧ Mx b1 s.o1 s.ws1 L1

section
variable {B : Nat} {w0 : World} {bc b0 b1 : Nat} {s : KS} {L : List (Nat × Obj)}

theorem Kw.mutex (h : Kw bc b0 b1 s L) (m : Bool) : ∃ Lm R, (∀ w F, Own B w0 w (L ++ F) → Own B w0 w (Lm ++ (R ++ F))) ∧ Mx (mb b0 b1 m) (s.own m) (s.ws m) Lm ∧ (∀ p ∈ Lm, p ∈ L) ∧
    ∀ o' ws' Lm', Mx (mb b0 b1 m) o' ws' Lm' → ∃ L', Kw bc b0 b1 (s.put m o' ws') L' ∧ ∀ w F, Own B w0 w (Lm' ++ (R ++ F)) → Own B w0 w (L' ++ F) := by
  obtain ⟨Lc, L0, L1, rfl, hc, h0, h1⟩ := h
  cases m with
  | false =>
    refine ⟨L0, Lc ++ L1, fun w F hO => ?_, h0, fun p hp => by simp [hp], fun o' ws' Lm' hm => ⟨Lc ++ (Lm' ++ L1), ⟨Lc, Lm', L1, rfl, hc, hm, h1⟩, fun w F hO => ?_⟩⟩
    · have h := hO.perm (L' := L0 ++ ((Lc ++ L1) ++ F)) (by simp only [List.append_assoc]; exact List.perm_append_comm_assoc _ _ _)
      exact h
    · exact hO.perm (by simp only [List.append_assoc]; exact List.perm_append_comm_assoc _ _ _)
  | true =>
    refine ⟨L1, Lc ++ L0, fun w F hO => ?_, h1, fun p hp => by simp [hp], fun o' ws' Lm' hm => ⟨Lc ++ (L0 ++ Lm'), ⟨Lc, L0, Lm', rfl, hc, h0, hm⟩, fun w F hO => ?_⟩⟩
    · exact hO.perm (by rw [← List.append_assoc Lc L0 L1]; simpa [List.append_assoc] using (List.perm_append_comm_assoc (Lc ++ L0) L1 F))
    · exact hO.perm (by rw [← List.append_assoc Lc L0 Lm']; simpa [List.append_assoc] using (List.perm_append_comm_assoc (Lc ++ L0) Lm' F).symm)

theorem Kw.cond (h : Kw bc b0 b1 s L) : ∃ Lc R, (∀ w F, Own B w0 w (L ++ F) → Own B w0 w (Lc ++ (R ++ F))) ∧ Kx bc (encQ b0 b1 s.q) Lc ∧ (∀ p ∈ Lc, p ∈ L) ∧
    ∀ q' Lc', Kx bc (encQ b0 b1 q') Lc' → ∃ L', Kw bc b0 b1 (s.withQ q') L' ∧ ∀ w F, Own B w0 w (Lc' ++ (R ++ F)) → Own B w0 w (L' ++ F) := by
  obtain ⟨Lc, L0, L1, rfl, hc, h0, h1⟩ := h
  exact ⟨Lc, L0 ++ L1, fun w F hO => by simpa [List.append_assoc] using hO, hc, fun p hp => by simp [hp], fun q' Lc' hm => ⟨Lc' ++ (L0 ++ L1), ⟨Lc', L0, L1, rfl, hm, h0, h1⟩, fun w F hO => by simpa [List.append_assoc] using hO⟩⟩

end

/-- What 'on' comes to. -/
def onW (r : LkR) (who : Int) : List Wk := if r.err ≠ 0 ∨ r.fault ≠ 0 then [⟨who, 0, 0, 8⟩] else if r.done = true then [⟨who, 0, 0, 0⟩] else []
def onK (s : KS) : List Wk × KS := match s.q with
  | [] => ([], s)
  | x :: r => (onW (lockR (s.own x.2) (s.ws x.2) x.1) x.1, (s.put x.2 (lockR (s.own x.2) (s.ws x.2) x.1).own (lockR (s.own x.2) (s.ws x.2) x.1).ws).withQ r)

def OnPost (B : Nat) (w0 : World) (bc b0 b1 : Nat) (F : List (Nat × Obj)) (r : List Wk × KS) (e : Ending) (w' : World) : Prop :=
  ∃ wk Lk L', e = .returned wk ∧ Sl 38 4 W4 wk r.1 Lk ∧ Kw bc b0 b1 r.2 L' ∧ Own B w0 w' (L' ++ (Lk ++ F))

theorem withQ_put (s : KS) (m : Bool) (o : Option Int) (ws : List Int) (q : List (Int × Bool)) : (s.withQ q).put m o ws = (s.put m o ws).withQ q := by
  cases m <;> rfl

theorem withQ_own (s : KS) (m : Bool) (q : List (Int × Bool)) : (s.withQ q).own m = s.own m := by cases m <;> rfl
theorem withQ_ws (s : KS) (m : Bool) (q : List (Int × Bool)) : (s.withQ q).ws m = s.ws m := by cases m <;> rfl

set_option maxRecDepth 100000 in
set_option maxHeartbeats 2000000 in
theorem on106 (B : Nat) (w0 : World) (bc b0 b1 : Nat) (s : KS) (L F : List (Nat × Obj)) (x : Int × Bool) (r : List (Int × Bool)) (w : World) (hq : s.q = x :: r) (hK : Kw bc b0 b1 s L) (hO : Own B w0 w (L ++ F)) :
    Calls Try.prog 106 #[.pointer (some ⟨bc, 0, none⟩)] w (OnPost B w0 bc b0 b1 F (onK s)) := by
  obtain ⟨lr, hlr⟩ : ∃ lr, lockR (s.own x.2) (s.ws x.2) x.1 = lr := ⟨_, rfl⟩
  have HR := Lib.hid (show onK s = (onW lr x.1, (s.put x.2 lr.own lr.ws).withQ r) by simp only [onK, hq, hlr])
  have HLR := Lib.hid hlr
  obtain ⟨Lc, R, hsp, hkx, hcm, hback⟩ := hK.cond (B := B) (w0 := w0)
  obtain ⟨⟨who, m⟩, hx⟩ : ∃ y, x = y := ⟨_, rfl⟩
  subst hx
  have hO1 := hsp w F hO
  have hkb : ∃ v, w.cell? ⟨bc, 0, none⟩ = some v := by
    obtain ⟨v, Lq, rfl, _, _⟩ := hkx
    exact ⟨v, cell_of_get (hO1.get (bc, kobj v) (by simp)) 0⟩
  have hq0 : (encQ b0 b1 s.q) = ⟨who, mb b0 b1 m⟩ :: encQ b0 b1 r := by rw [hq]; rfl
  rw [hq0] at hkx
  have HBACK := Lib.hid hback
  have HKX := Lib.hid hkx
  have HO1 := Lib.hid hO1
  clear hO1 hkx hback hsp hcm hO hK hlr hq hq0 hkb
  go_enter Try.func106, Try.ntmps106
  go_wp2_with fail
  refine (cut75 B w0 bc _ Lc (R ++ F) 0 _ HKX.out HO1.out (by simp)).mono ?_
  rintro e w1 ⟨rfl, Lc', hkx1, hO2⟩
  simp only [List.getElem_cons_zero, List.take_zero, List.nil_append, Nat.zero_add, List.drop_succ_cons, List.drop_zero] at hkx1 ⊢
  obtain ⟨L2, hK2, hO3⟩ := HBACK.out r Lc' hkx1
  have hO4 := hO3 _ _ hO2
  obtain ⟨Lm, R2, hsp2, hM, _, hback2⟩ := hK2.mutex (B := B) (w0 := w0) m
  have hO5 := (hsp2 _ _ hO4).alloc (wobj ⟨who, mb b0 b1 m⟩)
  have hO6 := hO5.shuf [[_], Lm, R2 ++ F] [1, 0, 2] rfl rfl
  have HO6 := Lib.hid hO6
  have HBACK2 := Lib.hid hback2
  clear HBACK HKX HO1 hkx1 hO2 hO3 hO4 hK2 hsp2 hO5 hO6 hback2
  go_wp2_with fail
  obtain ⟨dn, ft, er, ow, wss⟩ := lr
  refine (lock_any B w0 (mb b0 b1 m) (s.own m) (s.ws m) Lm _ who _ (by rw [withQ_own, withQ_ws] at hM; exact hM) HO6.out).mono ?_
  rw [HLR.out]
  rintro e w2 ⟨rfl, Lm', hM2, hO7⟩
  dsimp only at hM2 HR ⊢
  obtain ⟨L3, hK3, hO8⟩ := HBACK2.out ow wss Lm' hM2
  rw [withQ_put] at hK3
  have hwx := hO7.get (w1.heap.size, wobj ⟨who, mb b0 b1 m⟩) (by simp [cat])
  have x0 : w2.cell? ⟨w1.heap.size, 0, none⟩ = some (.int .i64 who) := cell_of_get hwx 0
  have x1 : w2.cell? ⟨w1.heap.size, 1, none⟩ = some (.pointer (some ⟨mb b0 b1 m, 0, none⟩)) := cell_of_get hwx 1
  have xl := lt_of_get hwx
  have hO9 := (hO7.shuf [Lm', [_], R2 ++ F] [0, 2, 1] rfl rfl)
  have HO9 := Lib.hid (show Own B w0 w2 ((L3 ++ F) ++ [(w1.heap.size, wobj ⟨who, mb b0 b1 m⟩)]) from by
    have h := hO8 w2 (F ++ [(w1.heap.size, wobj ⟨who, mb b0 b1 m⟩)]) (by simpa [cat, List.append_assoc] using hO9)
    simpa [List.append_assoc] using h).left
  have HK3 := Lib.hid hK3
  have HH := Lib.hid HR
  clear HBACK2 HO6 hM hM2 hO7 hO8 hO9 hK3 hwx HLR HR
  by_cases he : er = 0
  · subst he
    by_cases hf : ft = 0
    · subst hf
      cases dn with
      | true =>
        go_wp2
        go_ret
        rw [HH.out]
        exact ⟨_, _, L3, rfl, slK _ ⟨who, 0, 0, 0⟩, HK3.out, ((HO9.out.junk (.cells #[.bool true, .int .i64 0, .int .i64 0, .int .i64 0, .slice none 0 0] 33)).allocAt (.cells #[.int .i64 who, .int .i64 0, .int .i64 0, .int .i64 0] 38) (n := w2.heap.size + 1) (by simp)).perm List.perm_middle.symm⟩
      | false =>
        go_wp2
        go_ret
        rw [HH.out]
        exact ⟨_, [], L3, rfl, Sl.nil, HK3.out, by simpa using HO9.out.junk _⟩
    · go_wp2
      go_ret
      rw [HH.out]
      have hw : onW ⟨dn, ft, 0, ow, wss⟩ who = [⟨who, 0, 0, 8⟩] := by simp [onW, hf]
      rw [hw]
      exact ⟨_, _, L3, rfl, slK _ ⟨who, 0, 0, 8⟩, HK3.out, ((HO9.out.junk (.cells #[.bool dn, .int .i64 0, .int .i64 0, .int .i64 ft, .slice none 0 0] 33)).allocAt (.cells #[.int .i64 who, .int .i64 0, .int .i64 0, .int .i64 8] 38) (n := w2.heap.size + 1) (by simp)).perm List.perm_middle.symm⟩
  · go_wp2
    go_ret
    rw [HH.out]
    have hw : onW ⟨dn, ft, er, ow, wss⟩ who = [⟨who, 0, 0, 8⟩] := by simp [onW, he]
    rw [hw]
    exact ⟨_, _, L3, rfl, slK _ ⟨who, 0, 0, 8⟩, HK3.out, ((HO9.out.junk (.cells #[.bool dn, .int .i64 0, .int .i64 0, .int .i64 ft, .slice none 0 0] 33)).allocAt (.cells #[.int .i64 who, .int .i64 0, .int .i64 0, .int .i64 8] 38) (n := w2.heap.size + 1) (by simp)).perm List.perm_middle.symm⟩

end Go.Proofs.Ytidnkienkdlmkaa
