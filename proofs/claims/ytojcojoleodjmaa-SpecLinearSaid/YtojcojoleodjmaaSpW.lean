/-
  spec: wider calls, plain; one cell of a slice of structs is stored; contract of slices.Clone over calls. Condition: few calls.
-/
import Derived.Test.YtojcojoleodjmaaSpU
namespace Go.Proofs.Ytojcojoleodjmaa
open Go.RowKit Go.Shelf Go.Sh
attribute [local go_sem ↓] Go.wp_at_zero Go.wp_at_succ

theorem chk_bad {xs : List C6} (h : checkR xs = 0) (i : Nat) (hi : i < xs.length) : badB (xs.getD i default) = false := by
  have : nokB xs i = false := by
    rw [Bool.eq_false_iff]
    intro hb
    rw [chk_yes hi hb] at h
    cases h
  unfold nokB at this
  exact (Bool.or_eq_false_iff.1 this).1
theorem bad_no {c : C6} (h : badB c = false) : 1 ≤ c.fro ∧ (c.til = 0 ∨ c.fro < c.til) := by
  unfold badB at h
  simp at h
  refine ⟨by omega, ?_⟩
  by_cases h0 : c.til = 0
  · exact .inl h0
  · exact .inr (h.2 h0)

theorem wider_of {xs ys : List C6} (hl : xs.length = ys.length) (h : ∀ i, (xs.getD i default).op = (ys.getD i default).op ∧ (xs.getD i default).v = (ys.getD i default).v ∧ ((xs.getD i default).til = 0 ↔ (ys.getD i default).til = 0) ∧
    (xs.getD i default).til ≤ (ys.getD i default).til ∧ (ys.getD i default).fro ≤ (xs.getD i default).fro) : Wider xs ys := by
  refine ⟨hl, fun i => ⟨(h i).1, (h i).2.1, (h i).2.2.1, fun j hj => ?_⟩⟩
  unfold endedB at hj ⊢
  simp only [Bool.and_eq_true, bne_iff_ne, ne_eq, decide_eq_true_eq] at hj ⊢
  exact ⟨fun h0 => hj.1 ((h i).2.2.1.1 h0), by have := (h i).2.2.2.1; have := (h j).2.2.2.2; omega⟩

theorem getD_set (xs : List C6) (i j : Nat) (x : C6) (hi : i < xs.length) : (xs.set i x).getD j default = if i = j then x else xs.getD j default := by
  simp only [List.getD_eq_getElem?_getD, List.getElem?_set]
  by_cases e : i = j
  · subst e; simp [hi]
  · simp [e]

theorem wide_set {xs : List C6} {i : Nat} {x y : C6} (hx : xs[i]? = some x) (h1 : x.op = y.op) (h2 : x.v = y.v) (h3 : x.til = 0 ↔ y.til = 0) (h4 : x.til ≤ y.til) (h5 : y.fro ≤ x.fro) : Wider xs (xs.set i y) := by
  obtain ⟨hi, he⟩ := List.getElem?_eq_some_iff.1 hx
  refine wider_of (by simp) fun j => ?_
  rw [getD_set xs i j y hi]
  by_cases e : i = j
  · subst e
    rw [if_pos rfl, show xs.getD i default = x by simp [hx]]
    exact ⟨h1, h2, h3, h4, h5⟩
  · rw [if_neg e]
    exact ⟨rfl, rfl, Iff.rfl, Int.le_refl _, Int.le_refl _⟩

theorem holds_wider {kind : Int} {xs ys : List C6} {a : List Int} (hw : Wider xs ys) (hk : knownB kind = true) (hc : checkR ys = 0) (hg : goR kind xs a [] (opens xs) (begunT kind) = true) : holdsR kind ys a = true := by
  unfold holdsR
  rw [hk, hc, ← opens_wider hw, go_wider hw a [] _ _ hg]
  rfl

theorem flat_set {α : Type} {k : Nat} {enc : α → List Value} (hk : ∀ x, (enc x).length = k) (u : Value) (j : Nat) (hj : j < k) : ∀ (xs : List α) (i : Nat) (x y : α), xs[i]? = some x → enc y = (enc x).set j u → (xs.flatMap enc).set (i * k + j) u = (xs.set i y).flatMap enc
  | [], i, x, y, h, _ => by simp at h
  | z :: xs, 0, x, y, h, hy => by
    simp at h
    subst h
    rw [List.flatMap_cons, Nat.zero_mul, Nat.zero_add, List.set_append_left _ _ (by rw [hk]; exact hj), List.set_cons_zero, List.flatMap_cons, hy]
  | z :: xs, i + 1, x, y, h, hy => by
    rw [List.flatMap_cons, List.set_append_right _ _ (by rw [hk, Nat.add_mul]; omega), List.set_cons_succ, List.flatMap_cons]
    congr 1
    rw [← flat_set hk u j hj xs i x y (by simpa using h) hy, hk]
    congr 1
    rw [Nat.add_mul]
    omega

/-- A cell of the i-th element is stored. -/
theorem sl_set {α : Type} {e : TypeId} {k : Nat} {enc : α → List Value} (hk : ∀ x, (enc x).length = k) {g off n cap : Nat} {xs : List α} {L : List (Nat × Obj)} (h : Sl e k enc (.slice (some ⟨g, off, none⟩) n cap) xs L) {i : Nat} {x y : α} {j : Nat} {u : Value}
    (hx : xs[i]? = some x) (hj : j < k) (hy : enc y = (enc x).set j u) : ∃ cur, L = [(g, .cells cur e (0, 0))] ∧ Sl e k enc (.slice (some ⟨g, off, none⟩) n cap) (xs.set i y) [(g, .cells (cur.setIfInBounds (off + i * k + j) u) e (0, 0))] := by
  rcases h with ⟨h, _⟩ | ⟨g', off', cap', cur, hv, rfl, h1, h2, h3, h4⟩
  · cases h
  · simp only [Value.slice.injEq, Option.some.injEq, Addr.mk.injEq, and_true] at hv
    obtain ⟨⟨rfl, rfl⟩, rfl, rfl⟩ := hv
    refine ⟨cur, rfl, .inr ⟨g, off, cap, _, by simp, rfl, by simpa using h1, h2, by simpa using h3, ?_⟩⟩
    rw [← flat_set hk u j hj xs i x y hx hy, ← h4, Array.toList_setIfInBounds, List.length_set, List.drop_set]
    rw [if_neg (by omega), show off + i * k + j - off = i * k + j by omega, List.take_set]

theorem Try.info80 : (Try.prog.info? 80).map (fun i => (i.zero, i.size, i.bytes)) = some (some (.agg #[.int .i64 0, .int .i64 0, .int .i64 0, .int .i64 0, .int .i64 0, .int .i64 0]), 6, 48) := by kernel_rfl
theorem CC_one (x : C6) : ∀ u ∈ CC x, u.oneCell' = true := fun u h => by simp at h; rcases h with rfl | rfl | rfl | rfl | rfl | rfl <;> rfl

/-- A new slice of n elements at least one, beside what was owned. -/
def NewCC (B : Nat) (w0 : World) (F : List (Nat × Obj)) (xs : List C6) (r : Ending) (w' : World) : Prop :=
  ∃ g off cap L', r = .returned (.slice (some ⟨g, off, none⟩) xs.length cap) ∧ Sl 80 6 CC (.slice (some ⟨g, off, none⟩) xs.length cap) xs L' ∧ Sh.Own B w0 w' (L' ++ F)

theorem clone43 (B : Nat) (w0 : World) (F : List (Nat × Obj)) (xs : List C6) (v : Value) (w : World) (hR : Rd w CC v xs) (hO : Sh.Own B w0 w F) (hx : xs.length ≤ 100) (hx0 : 0 < xs.length) :
    Calls Try.prog 43 #[v] w (NewCC B w0 F xs) := by
  obtain ⟨i0, hi, hz0, hz1, hz2⟩ := info_parts Try.info80
  rcases hR with ⟨rfl, _⟩ | ⟨g, off, cap, rfl, hc⟩
  · simp at hx0
  have q : ∀ (w : World) (a : Option Addr) (n c n' c' : Nat), (binOp .eql 59 (.slice a n c) (.slice none n' c')).run Try.prog w = .ok (.bool a.isNone) w := fun w a n c n' c' => Lib.run_eql_slice_nil w _ _ a n c n' c' Try.underlying59
  have hE : Sl 80 6 CC (.slice (some ⟨w.heap.size, 0, none⟩) 0 0) ([] : List C6) [(w.heap.size, .cells #[] 80 (0, 0))] := .inr ⟨_, 0, 0, _, rfl, rfl, by simp, by simp, by simp, by simp⟩
  have hO2 : Sh.Own B w0 _ ([(w.heap.size, Obj.cells #[] 80 (0, 0))] ++ F) := hO.alloc (.cells #[] 80)
  have hb : Below w.heap.size w (w.alloc (.cells #[] 80)) := (Below.refl _ w).alloc (Nat.le_refl _) _
  have hn : ∀ j u, (xs.flatMap CC)[j]? = some u → (w.alloc (.cells #[] 80)).cell? ((⟨g, off, none⟩ : Addr).add j) = some u := fun j u hu => by
    have h := hc j u hu
    have ha : (⟨g, off, none⟩ : Addr).add j = ⟨g, off + j, none⟩ := by unfold Addr.add; split <;> simp_all
    rw [ha, hb.cell (p := ⟨g, off + j, none⟩) (World.block_lt_of_cell? _ _ h)]
    exact h
  obtain ⟨n, hlen⟩ : ∃ n, xs.length = n := ⟨_, rfl⟩
  have HL := Lib.hid hlen
  have HN := Lib.hid hn
  have HE := Lib.hid hE
  have HO2 := Lib.hid hO2
  rw [hlen] at hx hx0 ⊢
  clear hc hb hlen hn hE hO2
  go_enter Try.func43, Try.ntmps43
  go_wp2_with (at_builtin; refine wpList_append_sl rfl (.tmp 5) (.tmp 6) 59 rfl _ _ _ Try.underlying59 hi hz0 hz1 hz2 rfl CC_len CC_one rfl HE.out (by exact HO2.out) ⟨g, off, none⟩ xs n cap rfl HL.out HN.out hx0 (by simp [maxLen]; omega) (by simp; omega) ?_; intro g1 off1 cap1 w1 L1 hS1 hO1 _ _)
  go_ret
  exact ⟨g1, off1, cap1, L1, by rw [HL.out]; simp, by rw [HL.out]; simpa using hS1, hO1⟩

end Go.Proofs.Ytojcojoleodjmaa
