/-
  The plain law of ChanOrder: what is there is what was sent and has not come, in order. No condition.
-/
import Derived.Test.YtidnkienkdlmkaaChRecv
namespace Go.Proofs.Ytidnkienkdlmkaa
open Go.RowKit Go.Sh

def pend (s : CS) : List V2 := s.vals ++ s.snd.map (fun y => (⟨y.t, y.n⟩ : V2))
def seqV (got : Int) : Nat → List V2
  | 0 => []
  | m + 1 => ⟨1, got + 1⟩ :: seqV (got + 1) m

theorem seqV_snoc : ∀ (m : Nat) (got : Int), seqV got m ++ [⟨1, got + m + 1⟩] = seqV got (m + 1)
  | 0, got => by simp [seqV]
  | m + 1, got => by
    rw [seqV, List.cons_append, seqV, ← seqV_snoc m (got + 1)]
    have : got + ((m + 1 : Nat) : Int) + 1 = got + 1 + (m : Int) + 1 := by push_cast; omega
    rw [this]

theorem seqV_len : ∀ (m : Nat) (got : Int), (seqV got m).length = m
  | 0, _ => rfl
  | m + 1, got => by rw [seqV, List.length_cons, seqV_len m]

structure OI (s : CS) (got : Int) (m k : Nat) : Prop where
  pd : pend s = seqV got m
  ws : ∀ y ∈ s.snd, y.who < (k : Int)
  wr : ∀ y ∈ s.rcv, y.who < (k : Int)
  sh : s.shut = false
  rc : s.rcv ≠ [] → s.vals = [] ∧ s.snd = []
  sn : s.snd ≠ [] → s.room ≤ s.vals.length

theorem isW_false {xs : List W3} {k : Nat} (h : ∀ y ∈ xs, y.who < (k : Int)) : isW xs (k : Int) = false := by
  unfold isW
  rw [Bool.eq_false_iff]
  intro hc
  have hm : (k : Int) ∈ xs.map W3.who := by simpa using hc
  obtain ⟨y, hy, e⟩ := List.mem_map.1 hm
  have := h y hy
  omega

theorem OI.may {s : CS} {got : Int} {m k : Nat} (h : OI s got m k) (hk : k < 65536) : mayC s (k : Int) = 0 := by
  unfold mayC
  rw [if_neg (by omega), if_neg (by omega), if_neg (by rw [isW_false h.ws]; simp), if_neg (by rw [isW_false h.wr]; simp)]

theorem OI.later {s : CS} {got : Int} {m k : Nat} (h : OI s got m k) : OI s got m (k + 1) :=
  ⟨h.pd, fun y hy => by have := h.ws y hy; push_cast; omega, fun y hy => by have := h.wr y hy; push_cast; omega, h.sh, h.rc, h.sn⟩

theorem OI.send {s : CS} {got : Int} {m k : Nat} (h : OI s got m k) (hk : k < 65536) :
    (∃ y s', m = 0 ∧ sendC s (k : Int) ⟨1, got + m + 1⟩ = ⟨true, ⟨0, 0⟩, 0, [⟨y, 1, got + 1, 0⟩], 0, s'⟩ ∧ OI s' (got + 1) 0 (k + 1)) ∨
    (∃ d s', sendC s (k : Int) ⟨1, got + m + 1⟩ = ⟨d, ⟨0, 0⟩, 0, [], 0, s'⟩ ∧ OI s' got (m + 1) (k + 1)) ∨
    (sendC s (k : Int) ⟨1, got + m + 1⟩ = ⟨false, ⟨0, 0⟩, 0, [], 7, s⟩ ∧ OI s got m (k + 1)) := by
  have hmay := h.may hk
  have hl := h.later
  have hp := h.pd
  have hrc := h.rc
  have hsn := h.sn
  have hsh := h.sh
  have hws := hl.ws
  have hwr := hl.wr
  obtain ⟨room, vals, snd, rcv, shut⟩ := s
  dsimp only at hrc hsn hsh hws hwr
  subst hsh
  rw [pend] at hp
  dsimp only at hp
  unfold sendC
  rw [hmay, if_neg (by decide)]
  dsimp only
  rw [if_neg (by decide)]
  cases rcv with
  | cons y r =>
    obtain ⟨rfl, rfl⟩ := hrc (by simp)
    cases m with
    | succ m => simp [seqV] at hp
    | zero =>
      refine .inl ⟨y.who, ⟨room, [], [], r, false⟩, rfl, by simp, ⟨by simp [pend, seqV], (fun z hz => by cases hz), (fun z hz => hwr z (List.mem_cons_of_mem _ hz)), rfl, (fun _ => ⟨rfl, rfl⟩), (fun hz => absurd rfl hz)⟩⟩
  | nil =>
    dsimp only
    by_cases hroom : (vals.length : Int) < room
    · rw [if_pos hroom]
      have hs : snd = [] := by
        by_cases hn : snd = []
        · exact hn
        · have := hsn hn; omega
      subst hs
      refine .inr (.inl ⟨true, _, rfl, ⟨?_, (fun z hz => by cases hz), (fun z hz => by cases hz), rfl, (fun hz => absurd rfl hz), (fun hz => absurd rfl hz)⟩⟩)
      simp at hp
      simp [pend, hp, seqV_snoc]
    · rw [if_neg hroom]
      by_cases hf : 256 ≤ snd.length
      · rw [if_pos hf]
        exact .inr (.inr ⟨rfl, hl⟩)
      · rw [if_neg hf]
        refine .inr (.inl ⟨false, _, rfl, ⟨?_, (fun z hz => ?_), (fun z hz => by cases hz), rfl, (fun hz => absurd rfl hz), (fun _ => ?_)⟩⟩)
        · rw [← seqV_snoc, ← hp]
          simp [pend]
        · rcases List.mem_append.1 hz with hz | hz
          · exact hws z hz
          · simp at hz; subst hz; push_cast; show (k : Int) < k + 1; omega
        · show room ≤ vals.length; omega

theorem OI.recv {s : CS} {got : Int} {m k : Nat} (h : OI s got m k) (hk : k < 65536) :
    (∃ m' wk s', m = m' + 1 ∧ recvC s (k : Int) = ⟨true, ⟨1, got + 1⟩, 0, wk, 0, s'⟩ ∧ OI s' (got + 1) m' (k + 1)) ∨
    (∃ e s', recvC s (k : Int) = ⟨false, ⟨0, 0⟩, 0, [], e, s'⟩ ∧ (e = 0 ∨ e = 7) ∧ OI s' got m (k + 1)) := by
  have hmay := h.may hk
  have hl := h.later
  have hp := h.pd
  have hrc := h.rc
  have hsn := h.sn
  have hsh := h.sh
  have hws := hl.ws
  have hwr := hl.wr
  obtain ⟨room, vals, snd, rcv, shut⟩ := s
  dsimp only at hrc hsn hsh hws hwr
  subst hsh
  rw [pend] at hp
  dsimp only at hp
  unfold recvC
  rw [hmay, if_neg (by decide)]
  have hrc0 : (vals ≠ [] ∨ snd ≠ []) → rcv = [] := by
    intro hh
    by_cases hr : rcv = []
    · exact hr
    · obtain ⟨a, b⟩ := hrc hr
      rcases hh with h1 | h1
      · exact absurd a h1
      · exact absurd b h1
  cases vals with
  | cons v vs =>
    have hr := hrc0 (.inl (by simp))
    subst hr
    cases m with
    | zero => simp [seqV] at hp
    | succ m =>
      rw [seqV, List.cons_append, List.cons.injEq] at hp
      obtain ⟨rfl, hp⟩ := hp
      cases snd with
      | cons y r =>
        refine .inl ⟨m, _, _, rfl, rfl, ⟨?_, (fun z hz => hws z (List.mem_cons_of_mem _ hz)), (fun z hz => by cases hz), rfl, (fun hz => absurd rfl hz), (fun _ => ?_)⟩⟩
        · rw [← hp]; simp [pend]
        · have := hsn (by simp)
          simpa using this
      | nil =>
        refine .inl ⟨m, _, _, rfl, rfl, ⟨?_, (fun z hz => by cases hz), (fun z hz => by cases hz), rfl, (fun hz => absurd rfl hz), (fun hz => absurd rfl hz)⟩⟩
        rw [← hp]; simp [pend]
  | nil =>
    cases snd with
    | cons y r =>
      have hr := hrc0 (.inr (by simp))
      subst hr
      cases m with
      | zero => simp [seqV] at hp
      | succ m =>
        rw [seqV] at hp
        simp only [List.nil_append, List.map_cons, List.cons.injEq] at hp
        obtain ⟨h1, h2⟩ := hp
        refine .inl ⟨m, [⟨y.who, 0, 0, 0⟩], ⟨room, [], r, [], false⟩, rfl, by dsimp only; rw [h1], ⟨?_, (fun z hz => hws z (List.mem_cons_of_mem _ hz)), (fun z hz => by cases hz), rfl, (fun hz => absurd rfl hz), (fun _ => ?_)⟩⟩
        · simpa [pend] using h2
        · have := hsn (by simp)
          exact this
    | nil =>
      dsimp only
      rw [if_neg (by decide)]
      by_cases hf : 256 ≤ rcv.length
      · rw [if_pos hf]
        exact .inr ⟨7, _, rfl, .inr rfl, hl⟩
      · rw [if_neg hf]
        refine .inr ⟨0, _, rfl, .inl rfl, ⟨?_, (fun z hz => by cases hz), (fun z hz => ?_), rfl, (fun _ => ⟨rfl, rfl⟩), (fun hz => absurd rfl hz)⟩⟩
        · rw [← hp]; simp [pend]
        · rcases List.mem_append.1 hz with hz | hz
          · exact hwr z hz
          · simp at hz; subst hz; push_cast; show (k : Int) < k + 1; omega

theorem OI.new (room : Int) : OI ⟨room, [], [], [], false⟩ 0 0 0 := ⟨rfl, (fun _ h => by cases h), (fun _ h => by cases h), rfl, (fun h => absurd rfl h), (fun h => absurd rfl h)⟩

/-- What is left: the values, then as many as wait. -/
theorem OI.left {s : CS} {got : Int} {m k : Nat} (h : OI s got m k) : (∀ j (hj : j < s.vals.length), s.vals[j] = ⟨1, got + j + 1⟩) ∧ m = s.vals.length + s.snd.length := by
  have hp := h.pd
  have hg : ∀ (m : Nat) (got : Int) (j : Nat) (hj : j < m), (seqV got m)[j]? = some ⟨1, got + j + 1⟩ := by
    intro m
    induction m with
    | zero => intro got j hj; omega
    | succ m ih =>
      intro got j hj
      cases j with
      | zero => simp [seqV]
      | succ j =>
        rw [seqV, List.getElem?_cons_succ, ih (got + 1) j (by omega)]
        congr 2
        push_cast; omega
  refine ⟨fun j hj => ?_, ?_⟩
  · have hl : j < m := by
      have := congrArg List.length hp
      rw [pend, seqV_len] at this
      simp at this
      omega
    have h1 := hg m got j hl
    rw [← hp, pend, List.getElem?_append_left hj, List.getElem?_eq_getElem hj] at h1
    simpa using h1
  · have := congrArg List.length hp
    rw [pend, seqV_len] at this
    simp at this
    omega

end Go.Proofs.Ytidnkienkdlmkaa
