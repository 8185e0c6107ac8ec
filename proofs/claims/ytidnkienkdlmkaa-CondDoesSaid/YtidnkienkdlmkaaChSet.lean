/-
  A set of ints that the call owns (a map[int]bool): put, ask, take out, count; where the waiters of a channel stand. No condition.
-/
import Derived.Test.YtidnkienkdlmkaaChWaitsP
import Derived.Test.YtidnkienkdlmkaaIMapB
namespace Go.Proofs.Ytidnkienkdlmkaa
open Go.RowKit Go.Sh

theorem zero4 (w : World) : (zeroValue 4).run Try.prog w = .ok (.bool false) w := by kernel_rfl

section
variable {B : Nat} {w0 w : World} {R : List (Nat × Obj)} {bm : Nat} {o : Obj} {ks : List Int}

theorem set_put (hO : Own B w0 w ((bm, o) :: R)) (hm : MapIs (setK ks) o) (x : Int) (hx : x ∉ ks) :
    ∃ o' w', (Instr.mapUpdate 104 (.map (some bm)) (.int .i64 x) (.bool true)).run Try.prog w = .ok () w' ∧ MapIs (setK (ks ++ [x])) o' ∧ Own B w0 w' ((bm, o') :: R) ∧ w'.heap.size = w.heap.size := by
  obtain ⟨o', hrun, hm'⟩ := run_mapUpdate_kvs (P := Try.prog) (w := w) (b := bm) Try.underlying104 Try.underlying3 hO.head hm x (.bool true)
  rw [kput_set, if_neg hx] at hm'
  exact ⟨o', _, hrun, hm', hO.setObj o', by simp⟩

theorem set_get (hO : Own B w0 w ((bm, o) :: R)) (hm : MapIs (setK ks) o) (x : Int) (hx : x ∈ ks) :
    (Instr.lookup 104 (.map (some bm)) (.int .i64 x) false).run Try.prog w = .ok (.bool true) w := by
  have h := run_lookup_kvs (P := Try.prog) (w := w) (b := bm) Try.underlying104 Try.underlying3 (.bool false) zero4 hO.head hm x
  rw [kat_set] at h
  simpa [hx] using h

theorem set_del (hO : Own B w0 w ((bm, o) :: R)) (hm : MapIs (setK ks) o) (x : Int) :
    ∃ o' w', (Builtin.delete_ #[104, 3] 0 #[.map (some bm), .int .i64 x]).run Try.prog w = .ok (.tuple #[]) w' ∧ MapIs (setK (ks.erase x)) o' ∧ Own B w0 w' ((bm, o') :: R) ∧ w'.heap.size = w.heap.size := by
  obtain ⟨o', hrun, hm'⟩ := run_delete_kvs (P := Try.prog) (w := w) (b := bm) Try.underlying104 Try.underlying3 hO.head hm x #[104, 3] rfl 0
  rw [kdel_set] at hm'
  exact ⟨o', _, hrun, hm', hO.setObj o', by simp⟩

theorem set_len (hO : Own B w0 w ((bm, o) :: R)) (hm : MapIs (setK ks) o) (ty : TypeId) :
    (Builtin.len_ #[104] ty #[.map (some bm)]).run Try.prog w = .ok (.int .i64 ks.length) w := by
  have h := run_len_kvs (P := Try.prog) (w := w) (b := bm) Try.underlying104 hO.head hm ty
  rwa [setK_len] at h

end

/-- Where a channel's waiters stand. -/
theorem WInv.ways {s : CS} {ks : List Int} (h : WInv s) (hp : (KW s).Perm ks) :
    (s.snd.length : Int) + s.rcv.length = ks.length ∧ (s.vals.length : Int) ≤ s.room ∧
    ((0 < s.rcv.length ∧ s.vals.length ≤ 0 ∧ s.snd.length ≤ 0 ∧ s.shut = false) ∨ (s.rcv.length ≤ 0 ∧ 0 < s.snd.length ∧ (s.vals.length : Int) = s.room ∧ s.shut = false) ∨
      (s.rcv.length ≤ 0 ∧ s.snd.length ≤ 0 ∧ s.shut = true) ∨ (s.rcv.length ≤ 0 ∧ s.snd.length ≤ 0 ∧ s.shut = false)) := by
  obtain ⟨ha, hb, hc, hd⟩ := h
  refine ⟨?_, hd, ?_⟩
  · have := hp.length_eq
    simp [KW] at this
    omega
  · by_cases hr : s.rcv = []
    · by_cases hs : s.snd = []
      · cases hsh : s.shut with
        | true => exact .inr (.inr (.inl ⟨by simp [hr], by simp [hs], rfl⟩))
        | false => exact .inr (.inr (.inr ⟨by simp [hr], by simp [hs], rfl⟩))
      · refine .inr (.inl ⟨by simp [hr], List.length_pos_iff.2 hs, hb hs, ?_⟩)
        cases hsh : s.shut with
        | true => exact absurd (hc hsh).1 hs
        | false => rfl
    · obtain ⟨h1, h2⟩ := ha hr
      refine .inl ⟨List.length_pos_iff.2 hr, by simp [h1], by simp [h2], ?_⟩
      cases hsh : s.shut with
      | true => exact absurd (hc hsh).2 hr
      | false => rfl

theorem rd_i {w : World} {v : Value} {xs : List Int} (h : Rd w I v xs) : ∃ ao cap, v = .slice ao xs.length cap ∧ ∀ i (hi : i < xs.length), ∃ g off, ao = some ⟨g, off, none⟩ ∧ g < w.heap.size ∧ w.cell? ⟨g, off + i, none⟩ = some (.int .i64 xs[i]) := by
  rcases h with ⟨rfl, ao, cap, rfl⟩ | ⟨g, off, cap, rfl, hc⟩
  · exact ⟨ao, cap, rfl, fun i hi => by simp at hi⟩
  · refine ⟨_, cap, rfl, fun i hi => ?_⟩
    have h0 := hc i (.int .i64 xs[i]) (by rw [flatI]; simp [List.getElem?_eq_getElem hi])
    exact ⟨g, off, rfl, World.block_lt_of_cell? _ _ h0, h0⟩

theorem perm_next {A : List Int} {ks : List Int} {ws : List Wk} {k : Nat} (hk : k < ws.length) (h : (A ++ (ws.drop k).map Wk.who).Perm ks) :
    ws[k].who ∈ ks ∧ (A ++ (ws.drop (k + 1)).map Wk.who).Perm (ks.erase ws[k].who) := by
  rw [List.drop_eq_getElem_cons hk, List.map_cons] at h
  refine ⟨h.mem_iff.1 (by simp), ?_⟩
  have h2 := (List.perm_middle.symm.trans h).erase ws[k].who
  rwa [List.erase_cons_head] at h2

end Go.Proofs.Ytidnkienkdlmkaa
