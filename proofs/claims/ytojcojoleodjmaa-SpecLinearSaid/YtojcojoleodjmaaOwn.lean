/-
  Blocks that a call owns, as a list: what each block holds, all different, none below B; below B the world is as it was. No premise on the input.
-/
import Derived.WalkKit
import Derived.WalkSpells
import Derived.WalkLawsBesides
import Derived.Deep.AppendLies
import Derived.Deep.RegionLaw
import Derived.Deep.QuietTactic
import Derived.BigQuiet
import Derived.Lib.Hide
namespace Go.Sh
open Go.RowKit

/-- The list L says what the blocks hold that the call owns. -/
structure Own (B : Nat) (w0 w : World) (L : List (Nat × Obj)) : Prop where
  below : Below B w0 w
  size : B ≤ w.heap.size
  base : ∀ p ∈ L, B ≤ p.1
  nodup : (L.map Prod.fst).Nodup
  get : ∀ p ∈ L, w.heap[p.1]? = some p.2

theorem lt_of_get {w : World} {b : Nat} {o : Obj} (h : w.heap[b]? = some o) : b < w.heap.size := by
  rcases Nat.lt_or_ge b w.heap.size with h' | h'
  · exact h'
  · simp [Array.getElem?_eq_none h'] at h

section
variable {B : Nat} {w0 w w' : World} {L L' : List (Nat × Obj)}

theorem Own.start (w : World) : Own w.heap.size w w [] := ⟨Below.refl _ _, Nat.le_refl _, by simp, by simp, by simp⟩

theorem Own.perm (h : Own B w0 w L) (p : L.Perm L') : Own B w0 w L' :=
  ⟨h.below, h.size, fun x hx => h.base x (p.mem_iff.2 hx), (p.map Prod.fst).nodup_iff.1 h.nodup, fun x hx => h.get x (p.mem_iff.2 hx)⟩

/-- What is owned of a shorter list. -/
theorem Own.sub (h : Own B w0 w L) (s : L'.Sublist L) : Own B w0 w L' :=
  ⟨h.below, h.size, fun x hx => h.base x (s.subset hx), (s.map Prod.fst).nodup h.nodup, fun x hx => h.get x (s.subset hx)⟩

theorem Own.right {L1 L2 : List (Nat × Obj)} (h : Own B w0 w (L1 ++ L2)) : Own B w0 w L2 := h.sub (List.sublist_append_right _ _)
theorem Own.left {L1 L2 : List (Nat × Obj)} (h : Own B w0 w (L1 ++ L2)) : Own B w0 w L1 := h.sub (List.sublist_append_left _ _)
theorem Own.tail {p : Nat × Obj} (h : Own B w0 w (p :: L)) : Own B w0 w L := h.sub (List.sublist_cons_self _ _)

theorem Own.comm {L1 L2 : List (Nat × Obj)} (h : Own B w0 w (L1 ++ L2)) : Own B w0 w (L2 ++ L1) := h.perm List.perm_append_comm

theorem Own.lt (h : Own B w0 w L) {p : Nat × Obj} (hp : p ∈ L) : p.1 < w.heap.size := lt_of_get (h.get p hp)

theorem Own.alloc (h : Own B w0 w L) (o : Obj) : Own B w0 (w.alloc o) ((w.heap.size, o) :: L) := by
  refine ⟨h.below.alloc h.size o, by have := h.size; simp; omega, ?_, ?_, ?_⟩
  · intro p hp
    rcases List.mem_cons.1 hp with rfl | hp
    · exact h.size
    · exact h.base p hp
  · refine List.nodup_cons.2 ⟨fun hm => ?_, h.nodup⟩
    obtain ⟨p, hp, e⟩ := List.mem_map.1 hm
    have := h.lt hp
    omega
  · intro p hp
    rcases List.mem_cons.1 hp with rfl | hp
    · exact heap_alloc_new w o
    · rw [Below.heap_alloc w o _ (h.lt hp)]
      exact h.get p hp

theorem Own.allocAt (h : Own B w0 w L) (o : Obj) {n : Nat} (hn : w.heap.size = n) : Own B w0 (w.alloc o) ((n, o) :: L) := hn ▸ h.alloc o

/-- A new block of which nothing is kept. -/
theorem Own.junk (h : Own B w0 w L) (o : Obj) : Own B w0 (w.alloc o) L := (h.alloc o).tail

theorem Own.drew (h : Own B w0 w L) : Own B w0 w.drew L := ⟨h.below.drew, h.size, h.base, h.nodup, h.get⟩

theorem Own.drewN (h : Own B w0 w L) (n : Nat) : Own B w0 (w.drewN n) L :=
  ⟨⟨h.below.os, h.below.tape, h.below.output, h.below.size, h.below.block⟩, h.size, h.base, h.nodup, h.get⟩

/-- A world that differs in no owned block, nor below B. -/
theorem Own.carry (h : Own B w0 w L) (hb : Below B w w') (hs : w.heap.size ≤ w'.heap.size) (hk : ∀ p ∈ L, w'.heap[p.1]? = w.heap[p.1]?) : Own B w0 w' L :=
  ⟨h.below.trans hb, Nat.le_trans h.size hs, h.base, h.nodup, fun p hp => (hk p hp).trans (h.get p hp)⟩

theorem Own.grown (h : Own B w0 w L) {row : Option Nat} (hg : w.grownBy w' row) (hr : ∀ k, row = some k → B ≤ k ∧ k ∉ L.map Prod.fst) : Own B w0 w' L := by
  refine h.carry ((Below.refl B w).grown hg h.size (fun k e => (hr k e).1)) hg.size (fun p hp => hg.block _ (h.lt hp) (fun e => ?_))
  exact (hr _ e.symm).2 (List.mem_map_of_mem hp)

theorem Own.notMem {b : Nat} {o : Obj} (h : Own B w0 w ((b, o) :: L)) : b ∉ L.map Prod.fst := (List.nodup_cons.1 h.nodup).1

theorem heap_setCell_same {w : World} {b i : Nat} {c : Array Value} {t : TypeId} {f : Nat × Nat} (h : w.heap[b]? = some (.cells c t f)) (v : Value) :
    (w.setCell ⟨b, i, none⟩ v).heap[b]? = some (.cells (c.setIfInBounds i v) t f) := by
  have hlt := lt_of_get h
  have h' : w.heap[b] = .cells c t f := by simpa [Array.getElem?_eq_getElem hlt] using h
  show (w.heap.modify b _)[b]? = _
  rw [Array.getElem?_eq_getElem (by simpa using hlt), Array.getElem_modify_self, h']
  rfl

theorem Own.set {b : Nat} {c : Array Value} {t : TypeId} {f : Nat × Nat} (h : Own B w0 w ((b, .cells c t f) :: L)) (i : Nat) (v : Value) :
    Own B w0 (w.setCell ⟨b, i, none⟩ v) ((b, .cells (c.setIfInBounds i v) t f) :: L) := by
  have hb := h.base _ (List.mem_cons_self)
  have hn := h.notMem
  refine ⟨h.below.setCell hb v, by simpa [World.setCell] using h.size, ?_, h.nodup, ?_⟩
  · intro p hp
    rcases List.mem_cons.1 hp with rfl | hp
    · exact hb
    · exact h.base p (List.mem_cons_of_mem _ hp)
  · intro p hp
    rcases List.mem_cons.1 hp with rfl | hp
    · exact heap_setCell_same (h.get _ (List.mem_cons_self)) v
    · rw [Below.heap_setCell _ _ _ _ (fun e => hn (by have e' : p.1 = b := e; rw [← e']; exact List.mem_map_of_mem hp))]
      exact h.get p (List.mem_cons_of_mem _ hp)

theorem Own.setTo {b : Nat} {c : Array Value} {t : TypeId} {f : Nat × Nat} (h : Own B w0 w ((b, .cells c t f) :: L)) (i : Nat) (v : Value) {c' : Array Value} (hc : c.setIfInBounds i v = c') :
    Own B w0 (w.setCell ⟨b, i, none⟩ v) ((b, .cells c' t f) :: L) := hc ▸ h.set i v

theorem Own.head {b : Nat} {o : Obj} (h : Own B w0 w ((b, o) :: L)) : w.heap[b]? = some o := h.get _ (List.mem_cons_self)

theorem Own.cellAt {b : Nat} {c : Array Value} {t : TypeId} {f : Nat × Nat} (h : Own B w0 w L) (hm : (b, .cells c t f) ∈ L) (i : Nat) : w.cell? ⟨b, i, none⟩ = c[i]? := by
  simp [World.cell?, h.get _ hm]

theorem Own.freeAt {b : Nat} {c : Array Value} {t : TypeId} (h : Own B w0 w L) (hm : (b, .cells c t (0, 0)) ∈ L) (i : Nat) : w.frozen? ⟨b, i, none⟩ = false := by
  simp [World.frozen?, h.get _ hm]

end

/-- Lists one behind the other, without an empty one at the end. -/
def cat {α : Type} : List (List α) → List α
  | [] => []
  | [x] => x
  | x :: y :: r => x ++ cat (y :: r)

theorem cat_flatten {α : Type} : ∀ (Xs : List (List α)), cat Xs = Xs.flatten
  | [] => rfl
  | [x] => by simp [cat]
  | x :: y :: r => by rw [cat, cat_flatten (y :: r)]; simp

/-- Parts of what is owned, in another order: part σ 0, part σ 1, .. -/
theorem Own.shuf {B : Nat} {w0 w : World} {L : List (Nat × Obj)} (h : Own B w0 w L) (Xs : List (List (Nat × Obj))) (σ : List Nat) (hL : cat Xs = L) (hσ : σ.isPerm (List.range Xs.length) = true) :
    Own B w0 w (cat (σ.map fun i => Xs.getD i [])) := by
  refine h.perm ?_
  rw [← hL, cat_flatten, cat_flatten]
  have h1 : σ.Perm (List.range Xs.length) := List.isPerm_iff.1 hσ
  have h2 : (List.range Xs.length).map (fun i => Xs.getD i []) = Xs := by
    apply List.ext_getElem?
    intro i
    by_cases hi : i < Xs.length
    · simp [hi]
    · simp [hi]
  have h3 := (h1.map (fun i => Xs.getD i [])).flatten
  rw [h2] at h3
  exact h3.symm

/-- A slice value v over the elements xs (each 'enc x' long, k cells): nil, or somewhere in a row of its own. -/
def Sl {α : Type} (e : TypeId) (k : Nat) (enc : α → List Value) (v : Value) (xs : List α) (L : List (Nat × Obj)) : Prop :=
  (v = .slice none 0 0 ∧ xs = [] ∧ L = []) ∨
  ∃ g off cap cur, v = .slice (some ⟨g, off, none⟩) xs.length cap ∧ L = [(g, .cells cur e (0, 0))] ∧ xs.length ≤ cap ∧ cap ≤ maxLen ∧ off + cap * k ≤ cur.size ∧
    ((cur.toList.drop off).take (xs.length * k)) = xs.flatMap enc

section
variable {α : Type} {e : TypeId} {k : Nat} {enc : α → List Value} {v : Value} {xs : List α} {L : List (Nat × Obj)}

theorem Sl.nil : Sl e k enc (.slice none 0 0) ([] : List α) [] := .inl ⟨rfl, rfl, rfl⟩

theorem Sl.form (h : Sl e k enc v xs L) : ∃ ao cap, v = .slice ao xs.length cap ∧ xs.length ≤ cap ∧ cap ≤ maxLen := by
  rcases h with ⟨rfl, rfl, rfl⟩ | ⟨g, off, cap, cur, rfl, rfl, h1, h2, _⟩
  · exact ⟨none, 0, rfl, Nat.le_refl _, Nat.zero_le _⟩
  · exact ⟨_, _, rfl, h1, h2⟩

end

end Go.Sh
