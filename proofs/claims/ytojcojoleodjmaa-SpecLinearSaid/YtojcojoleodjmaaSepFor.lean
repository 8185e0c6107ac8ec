/-
  A range over a function, where the iterator writes memory of its own: each side's blocks as lists; a value that is told hands its blocks over. No program in sight.
-/
import Derived.RangeFuncWrites
import Derived.Test.YtojcojoleodjmaaOwn
namespace Go.Sh
open Go Go.RowKit

theorem Own.putObj {B : Nat} {w0 w : World} {L : List (Nat × Obj)} {l : Nat} {o : Obj} (h : Own B w0 w ((l, o) :: L)) (o' : Obj) : Own B w0 (w.putObj l o') ((l, o') :: L) := by
  have hlt := lt_of_get (h.get (l, o) List.mem_cons_self)
  have hb := h.base _ (List.mem_cons_self)
  have hn := h.notMem
  have h1 := h.tail.grown (grownBy_putObj' w l o') (fun k e => by cases e; exact ⟨hb, hn⟩)
  refine ⟨h1.below, h1.size, ?_, h.nodup, ?_⟩
  · intro p hp
    rcases List.mem_cons.1 hp with rfl | hp
    · exact hb
    · exact h1.base p hp
  · intro p hp
    rcases List.mem_cons.1 hp with rfl | hp
    · exact World.putObj_heap_same hlt
    · exact h1.get p hp

theorem own_in {B : Nat} {w0 w : World} {a b : Nat × Obj} {L M G : List (Nat × Obj)} (h : Own B w0 w (a :: b :: L ++ (M ++ G))) : Own B w0 w (L ++ (M ++ (a :: b :: G))) :=
  h.shuf [[a, b], L, M, G] [1, 2, 0, 3] rfl rfl
theorem own_out {B : Nat} {w0 w : World} {a b : Nat × Obj} {L G : List (Nat × Obj)} (h : Own B w0 w (L ++ (a :: b :: G))) : Own B w0 w (a :: b :: L ++ G) :=
  h.shuf [L, [a, b], G] [1, 0, 2] rfl rfl
theorem own_second {B : Nat} {w0 w : World} {a b : Nat × Obj} {L G : List (Nat × Obj)} (h : Own B w0 w (a :: b :: L ++ G)) : Own B w0 w (L ++ (b :: G)) :=
  (h.shuf [[a], [b], L, G] [0, 2, 1, 3] rfl rfl).tail

variable {F : Fence} {n : Nat} {P : Program}

/-- What a round may do with what it is told. -/
def SepYield {α : Type} (F : Fence) (m : Nat) (P : Program) (l B : Nat) (w0 : World) (enc : α → Value → List (Nat × Obj) → Prop) (told : List α) (J Jx : List α → List (Nat × Obj) → Prop) : Prop :=
  ∀ (pre : List α) (x : α) (v : Value) (Lo Lb G : List (Nat × Obj)) (W : World), pre ++ [x] <+: told → enc x v Lo → J pre Lb → Own B w0 W (Lb ++ (Lo ++ G)) → YieldAt F m P l #[v] W fun e W' =>
    (e = .returned (.bool true) ∧ ∃ Lb', J (pre ++ [x]) Lb' ∧ Own B w0 W' (Lb' ++ G)) ∨ (e = .returned (.bool false) ∧ ∃ Lb', Jx (pre ++ [x]) Lb' ∧ Own B w0 W' (Lb' ++ G))

/-- An iterator that tells all of these, one by one, unless it is stopped. -/
def SeqSep {α : Type} (F : Fence) (n : Nat) (P : Program) (g : Nat) (lb : Array Value) (B : Nat) (w0 : World) (enc : α → Value → List (Nat × Obj) → Prop) (told : List α) (G0 : List (Nat × Obj)) : Prop :=
  ∀ (l : Nat) (J Jx : List α → List (Nat × Obj) → Prop) (Lb : List (Nat × Obj)) (W : World), SepYield F (n - 1) P l B w0 enc told J Jx → J [] Lb → Own B w0 W (Lb ++ G0) →
    CallsIn F n P g (#[.func (.yield l) #[] #[]] ++ lb) W fun e W' => (∃ v, e = .returned v) ∧ ((∃ Lb', J told Lb' ∧ Own B w0 W' (Lb' ++ G0)) ∨ (∃ pre Lb', pre <+: told ∧ Jx pre Lb' ∧ Own B w0 W' (Lb' ++ G0)))

/-- How a round's body may be left. -/
def sepPost {α : Type} (B : Nat) (w0 : World) (I : List α → List (Nat × Obj) → Prop) (Ix : Code → List α → List (Nat × Obj) → Prop) (xs : List α) (G : List (Nat × Obj)) : Exit → Act → World → Prop
  | .normal, _, W' => ∃ Lb, I xs Lb ∧ Own B w0 W' (Lb ++ G)
  | .ret, _, W' => ∃ Lb, Ix .ret xs Lb ∧ Own B w0 W' (Lb ++ G)
  | .exit id, _, W' => ∃ Lb, Ix (.exit id) xs Lb ∧ Own B w0 W' (Lb ++ G)
  | .goto t, _, W' => ∃ Lb, Ix (.goto t) xs Lb ∧ Own B w0 W' (Lb ++ G)
  | .panic _, _, _ => False
  | .outgrown, _, _ => False

theorem wpIn_rangeFunc_sep {α : Type} {g : Operand} {ps : Array Tmp} {assign body : Code} {Q : Exit → Act → World → Prop} {a : Act} {w : World}
    (hro : F.round = none) (h1 : 1 ≤ n) {gf : Nat} {lb : Array Value} (hg : a.eval g = .func (.func gf) #[] lb) (hFg : F.fn gf) (eg : ∀ args w, (callFunc gf args).run P w = .ok (.enter gf args) w)
    {enc : α → Value → List (Nat × Obj) → Prop} {told : List α} {B : Nat} {w0 : World} {Lb0 G0 : List (Nat × Obj)} (hseq : SeqSep F (n - 1) P gf lb B w0 enc told G0) (hO : Own B w0 w (Lb0 ++ G0)) (hps : 1 = ps.size)
    (I : List α → List (Nat × Obj) → Prop) (Ix : Code → List α → List (Nat × Obj) → Prop) (h0 : I [] Lb0) (a₁ : Value → Act)
    (hassign : ∀ (l : Nat) (v : Value) (W : World) (K : Act → World → Prop), K (a₁ v) W →
      assign.wpIn (F.inRound l) (n - 1 - 1) P (Exit.then K (fun _ _ _ => False)) { tmps := (ps.zip #[v]).foldl (fun t (p, v) => t.setIfInBounds p v) a.tmps, defers := [] } W)
    (hbody : ∀ (l : Nat) (pre : List α) (x : α) (v : Value) (Lo Lb G : List (Nat × Obj)) (W : World), pre ++ [x] <+: told → enc x v Lo → I pre Lb → Own B w0 W (Lb ++ (Lo ++ G)) →
      body.wpIn (F.inRound l) (n - 1 - 1) P (sepPost B w0 I Ix (pre ++ [x]) G) (a₁ v) W)
    (hdone : ∀ (D : Nat) (Lb : List (Nat × Obj)) (W : World), I told Lb → Own B w0 W (Lb ++ ((D, Obj.deferred (some [])) :: G0)) → Q .normal { a with defers := { target := .collected D, args := #[] } :: a.defers } W)
    (hstop : ∀ (D : Nat) (c : Code) (pre : List α) (Lb : List (Nat × Obj)) (W : World), pre <+: told → Ix c pre Lb → Own B w0 W (Lb ++ ((D, Obj.deferred (some [])) :: G0)) → c.wpIn F n P Q { a with defers := { target := .collected D, args := #[] } :: a.defers } W) :
    (Code.rangeFunc g ps assign body).wpIn F n P Q a w := by
  refine wpIn_rangeFunc ?_
  intro fn hfn
  rw [hro]
  obtain ⟨rec, hrec⟩ : ∃ rec : LoopState → Option Code → Loop, rec = fun st pe => { state := st, pending := pe, fn, tmps := a.tmps, params := ps, assign, body, defers := w.heap.size } := ⟨_, rfl⟩
  obtain ⟨D, hD⟩ : ∃ D, w.heap.size = D := ⟨_, rfl⟩
  obtain ⟨R, hR⟩ : ∃ R, D + 1 = R := ⟨_, rfl⟩
  have hO1 : Own B w0 ((w.alloc (.deferred (some []))).alloc (.loop (rec .ready none))) ((R, .loop (rec .ready none)) :: (D, .deferred (some [])) :: (Lb0 ++ G0)) :=
    (hO.allocAt (.deferred (some [])) hD).allocAt (.loop (rec .ready none)) (by simp [hD, hR])
  refine ⟨R, [{ target := .collected D, args := #[] }], (w.alloc (.deferred (some []))).alloc (.loop (rec .ready none)), { target := .fn (.func gf) lb, args := #[.func (.yield R) #[] #[]] }, (w.alloc (.deferred (some []))).alloc (.loop (rec .ready none)), gf,
    #[.func (.yield R) #[] #[]] ++ lb, (w.alloc (.deferred (some []))).alloc (.loop (rec .ready none)), ?_, ?_, ?_, ?_, fun _ => h1, ?_⟩
  · rw [hrec, ← hR, ← hD]; exact run_enterLoop_outer _ _ _ _ _
  · simp only [resolve, hg]
    simp [go_sem]
  · intro f' hf'; simp [Target.leads] at hf'; subst hf'; exact hFg
  · simp [invoke, go_sem, eg]
  · refine (hseq R
      (fun pre L => ∃ Lb, L = (R, Obj.loop (rec .ready none)) :: (D, Obj.deferred (some [])) :: Lb ∧ I pre Lb)
      (fun pre L => ∃ c Lb, L = (R, Obj.loop (rec .done (some c))) :: (D, Obj.deferred (some [])) :: Lb ∧ Ix c pre Lb)
      ((R, Obj.loop (rec .ready none)) :: (D, Obj.deferred (some [])) :: Lb0) _ ?_ ⟨_, rfl, h0⟩ hO1).mono ?_
    · rintro pre x v Lo Lb G W hpre hx ⟨Lb, rfl, hi⟩ hW
      have hl := hW.get (R, Obj.loop (rec .ready none)) (by simp)
      have hy := run_yield (P := P) (args := #[v]) hl (by rw [hrec]; exact hps)
      rw [hrec] at hy
      refine ⟨fn, _, assign, body, hy, roundIn_of_wpIn hfn (hassign _ v W _ ⟨_, run_beginRound hl (by rw [hrec]), ?_⟩)⟩
      refine wpIn_mono (hbody _ pre x v Lo Lb ((R, Obj.loop { rec .ready none with state := .busy }) :: (D, Obj.deferred (some [])) :: G) _ hpre hx hi (own_in (hW.putObj (.loop { rec .ready none with state := .busy })))) ?_
      have fin : ∀ (jump : Option Code) (Lb' : List (Nat × Obj)) (W3 : World), Own B w0 W3 (Lb' ++ ((R, Obj.loop { rec .ready none with state := .busy }) :: (D, Obj.deferred (some [])) :: G)) →
          (Instr.endRound R jump).run P W3 = .ok (.bool jump.isNone) (W3.putObj R (.loop (rec (if jump.isNone then .ready else .done) jump))) ∧
          Own B w0 (W3.putObj R (.loop (rec (if jump.isNone then .ready else .done) jump))) ((R, Obj.loop (rec (if jump.isNone then .ready else .done) jump)) :: (D, Obj.deferred (some [])) :: Lb' ++ G) := fun jump Lb' W3 h3 => by
        have h4 := own_out h3
        have hl3 := h4.get (R, Obj.loop { rec .ready none with state := .busy }) (by simp)
        have := run_endRound (P := P) jump hl3
        rw [hrec] at this
        refine ⟨by rw [hrec]; exact this, h4.putObj _⟩
      rintro e a3 W3 hp
      cases e with
      | normal =>
        obtain ⟨Lb', hi3, h3⟩ := hp
        obtain ⟨hr, h4⟩ := fin none Lb' W3 h3
        exact ⟨_, _, hr, .inl ⟨rfl, _, ⟨Lb', rfl, hi3⟩, h4⟩⟩
      | ret =>
        obtain ⟨Lb', hi3, h3⟩ := hp
        obtain ⟨hr, h4⟩ := fin (some .ret) Lb' W3 h3
        exact ⟨_, _, hr, .inr ⟨rfl, _, ⟨.ret, Lb', rfl, hi3⟩, h4⟩⟩
      | exit id =>
        obtain ⟨Lb', hi3, h3⟩ := hp
        obtain ⟨hr, h4⟩ := fin (some (.exit id)) Lb' W3 h3
        exact ⟨_, _, hr, .inr ⟨rfl, _, ⟨.exit id, Lb', rfl, hi3⟩, h4⟩⟩
      | goto t =>
        obtain ⟨Lb', hi3, h3⟩ := hp
        obtain ⟨hr, h4⟩ := fin (some (.goto t)) Lb' W3 h3
        exact ⟨_, _, hr, .inr ⟨rfl, _, ⟨.goto t, Lb', rfl, hi3⟩, h4⟩⟩
      | panic ch => exact hp.elim
      | outgrown => exact hp.elim
    · rintro e W2 ⟨⟨v, rfl⟩, (⟨_, ⟨Lb, rfl, hi⟩, h2⟩ | ⟨pre, _, hpre, ⟨c, Lb, rfl, hi⟩, h2⟩)⟩
      · have hl := h2.get (R, Obj.loop (rec .ready none)) (by simp)
        exact ⟨none, _, by have := run_endLoop (P := P) hl (by rw [hrec]; simp); rw [hrec] at this; exact this, hdone D Lb _ hi (own_second (h2.putObj _))⟩
      · have hl := h2.get (R, Obj.loop (rec .done (some c))) (by simp)
        exact ⟨some c, _, by have := run_endLoop (P := P) hl (by rw [hrec]; simp); rw [hrec] at this; exact this, hstop D c pre Lb _ hpre hi (own_second (h2.putObj _))⟩

end Go.Sh
