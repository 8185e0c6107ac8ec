/-
  The plain law of ChanWaits. No condition.
-/
import Derived.Test.YtidnkienkdlmkaaChDrop
namespace Go.Proofs.Ytidnkienkdlmkaa
open Go.RowKit Go.Sh

/-- Who waits. -/
def KW (s : CS) : List Int := s.snd.map W3.who ++ s.rcv.map W3.who

structure WInv (s : CS) : Prop where
  a : s.rcv ≠ [] → s.vals = [] ∧ s.snd = []
  b : s.snd ≠ [] → (s.vals.length : Int) = s.room
  c : s.shut = true → s.snd = [] ∧ s.rcv = []
  d : (s.vals.length : Int) ≤ s.room

def addC (r : CR) : Bool := (r.err == 0) && !r.done && (r.fault == 0)

def Stp (s : CS) (who : Int) (r : CR) : Prop :=
  WInv r.st ∧ ((addC r = true ∧ who ∉ KW s ∧ (KW r.st ++ r.wakes.map Wk.who).Perm (who :: KW s)) ∨ (addC r = false ∧ (KW r.st ++ r.wakes.map Wk.who).Perm (KW s)))

theorem mayC_not {s : CS} {who : Int} (h : ¬ mayC s who = 1) : who ∉ KW s := by
  unfold mayC at h
  intro hm
  rcases List.mem_append.1 hm with h1 | h1
  · have : isW s.snd who = true := by simpa [isW] using h1
    simp [this] at h
  · have : isW s.rcv who = true := by simpa [isW] using h1
    simp [this] at h

theorem send_stp (s : CS) (who : Int) (x : V2) (h : WInv s) : Stp s who (sendC s who x) := by
  obtain ⟨ha, hb, hc, hd⟩ := h
  unfold sendC
  split
  · exact ⟨⟨ha, hb, hc, hd⟩, .inr ⟨rfl, by simp⟩⟩
  · rename_i hm
    have hk := mayC_not hm
    split
    · exact ⟨⟨ha, hb, hc, hd⟩, .inr ⟨rfl, by simp⟩⟩
    · rename_i hs
      split
      · rename_i y r hr
        obtain ⟨hv, hsn⟩ := ha (by rw [hr]; simp)
        refine ⟨⟨fun _ => ⟨hv, hsn⟩, fun h => absurd hsn h, fun h => absurd h hs, hd⟩, .inr ⟨rfl, ?_⟩⟩
        simp [KW, hr, hsn]
      · rename_i hr
        split
        · rename_i hl
          have hsn : s.snd = [] := by
            cases h : s.snd with
            | nil => rfl
            | cons y t => have := hb (by rw [h]; simp); omega
          refine ⟨⟨fun h => absurd hr h, fun h => absurd hsn h, fun h => absurd h hs, ?_⟩, .inr ⟨rfl, by simp [KW]⟩⟩
          simp; omega
        · rename_i hl
          split
          · exact ⟨⟨ha, hb, hc, hd⟩, .inr ⟨rfl, by simp⟩⟩
          · refine ⟨⟨fun h => absurd hr h, fun _ => by simp only; omega, fun h => absurd h hs, hd⟩, .inl ⟨rfl, hk, ?_⟩⟩
            simp [KW, hr]

theorem recv_stp (s : CS) (who : Int) (h : WInv s) : Stp s who (recvC s who) := by
  obtain ⟨ha, hb, hc, hd⟩ := h
  unfold recvC
  split
  · exact ⟨⟨ha, hb, hc, hd⟩, .inr ⟨rfl, by simp⟩⟩
  · rename_i hm
    have hk := mayC_not hm
    split
    · rename_i v vs y r hv hy
      have hrc : s.rcv = [] := by
        cases h : s.rcv with
        | nil => rfl
        | cons z t => have := (ha (by rw [h]; simp)).1; rw [hv] at this; cases this
      have hl := hb (by rw [hy]; simp)
      rw [hv] at hl
      refine ⟨⟨fun h => absurd hrc h, fun _ => by simp at hl ⊢; omega, fun h => ?_, by simp at hl ⊢; omega⟩, .inr ⟨rfl, ?_⟩⟩
      · have := (hc h).1; rw [hy] at this; cases this
      · simp [KW, hy, hrc]
    · rename_i v vs hv hy
      have hrc : s.rcv = [] := by
        cases h : s.rcv with
        | nil => rfl
        | cons z t => have := (ha (by rw [h]; simp)).1; rw [hv] at this; cases this
      refine ⟨⟨fun h => absurd hrc h, fun h => absurd hy h, fun h => hc h, by rw [hv] at hd; simp at hd ⊢; omega⟩, .inr ⟨rfl, by simp [KW]⟩⟩
    · rename_i y r hv hy
      have hrc : s.rcv = [] := by
        cases h : s.rcv with
        | nil => rfl
        | cons z t => have := (ha (by rw [h]; simp)).2; rw [hy] at this; cases this
      have hl := hb (by rw [hy]; simp)
      refine ⟨⟨fun h => absurd hrc h, fun _ => hl, fun h => ?_, hd⟩, .inr ⟨rfl, ?_⟩⟩
      · have := (hc h).1; rw [hy] at this; cases this
      · simp [KW, hy, hrc]
    · rename_i hv hy
      split
      · exact ⟨⟨ha, hb, hc, hd⟩, .inr ⟨rfl, by simp⟩⟩
      · rename_i hs
        split
        · exact ⟨⟨ha, hb, hc, hd⟩, .inr ⟨rfl, by simp⟩⟩
        · refine ⟨⟨fun _ => ⟨hv, hy⟩, fun h => absurd hy h, fun h => absurd h hs, hd⟩, .inl ⟨rfl, hk, ?_⟩⟩
          simp [KW, hy]

theorem close_stp (s : CS) (who : Int) (h : WInv s) : Stp s who (closeC s) := by
  obtain ⟨ha, hb, hc, hd⟩ := h
  unfold closeC
  split
  · exact ⟨⟨ha, hb, hc, hd⟩, .inr ⟨rfl, by simp⟩⟩
  · refine ⟨⟨fun h => absurd rfl h, fun h => absurd rfl h, fun _ => ⟨rfl, rfl⟩, hd⟩, .inr ⟨rfl, ?_⟩⟩
    simp only [KW, List.map_nil, List.nil_append, List.map_append, List.map_map]
    exact List.perm_append_comm

theorem idx_is {xs : List Int} {x : Int} {i : Nat} (hi : i < xs.length) (h : idx xs x = i) : xs[i] = x := by
  unfold idx at h
  cases he : xs.findIdx? (· == x) with
  | none => rw [he] at h; simp at h
  | some j =>
    rw [he] at h
    have hj : j = i := by simp at h; omega
    subst hj
    rw [List.findIdx?_eq_some_iff_getElem] at he
    simpa using he.2.1

theorem outW_perm (xs : List W3) (who : Int) (h : isW xs who = true) : (xs.map W3.who).Perm (who :: (outW xs who).map W3.who) := by
  rcases widx_cases xs who with ⟨_, h2⟩ | ⟨i, hi, h1, _⟩
  · rw [h] at h2; cases h2
  · have hw : xs[i].who = who := by
      have hn : idx (xs.map W3.who) who = i := h1
      have := idx_is (by simpa using hi) hn
      rwa [List.getElem_map] at this
    rw [outW, h1, Int.toNat_natCast]
    have e : xs = xs.take i ++ (xs[i] :: xs.drop (i + 1)) := by rw [← List.drop_eq_getElem_cons hi, List.take_append_drop]
    conv => lhs; rw [e]
    simp only [List.map_append, List.map_cons, hw]
    exact List.perm_middle

theorem drop_stp (s : CS) (who : Int) (h : WInv s) : WInv (dropC s who).2 ∧ ((dropC s who).1 = 0 ∧ (KW s).Perm (who :: KW (dropC s who).2) ∨ (dropC s who).1 = 6 ∧ (dropC s who).2 = s) := by
  obtain ⟨ha, hb, hc, hd⟩ := h
  unfold dropC
  split
  · rename_i h1
    have hp := outW_perm _ _ h1
    refine ⟨⟨fun h => ⟨(ha h).1, ?_⟩, fun h => hb ?_, fun h => ?_, hd⟩, .inl ⟨rfl, ?_⟩⟩
    · have := (ha h).2; rw [this] at h1; simp [isW] at h1
    · intro e; rw [e] at h1; simp [isW] at h1
    · have := (hc h).1; rw [this] at h1; simp [isW] at h1
    · exact hp.append_right _
  · split
    · rename_i h0 h1
      have hp := outW_perm _ _ h1
      have hne : s.rcv ≠ [] := by intro e; rw [e] at h1; simp [isW] at h1
      refine ⟨⟨fun _ => ha hne, hb, fun h => absurd (hc h).2 hne, hd⟩, .inl ⟨rfl, ?_⟩⟩
      exact (hp.append_left _).trans List.perm_middle
    · exact ⟨⟨ha, hb, hc, hd⟩, .inr ⟨rfl, rfl⟩⟩

end Go.Proofs.Ytidnkienkdlmkaa
