/-
  SpecOne's walk: it returns true at every input. No condition.
-/
import Derived.Test.YtojcojoleodjmaaSpX
import Derived.Test.YtojcojoleodjmaaSpWider
import Derived.Test.YtojcojoleodjmaaSpFrame
namespace Go.Proofs.Ytojcojoleodjmaa
open Go.RowKit Go.Shelf Go.Sh
attribute [local go_sem ↓] Go.wp_at_zero Go.wp_at_succ

theorem rd_u8 {w : World} {v : Value} {ks : List Int} (h : Rd w U8 v ks) : ∃ ao cap, v = .slice ao ks.length cap ∧ ∀ k (hk : k < ks.length), ∃ g off, ao = some ⟨g, off, none⟩ ∧ g < w.heap.size ∧ w.cell? ⟨g, off + k, none⟩ = some (.int .u8 ks[k]) := by
  rcases h with ⟨rfl, ao, cap, rfl⟩ | ⟨g, off, cap, rfl, h⟩
  · exact ⟨ao, cap, rfl, fun k hk => by simp at hk⟩
  · refine ⟨_, cap, rfl, fun k hk => ?_⟩
    have := h k (.int .u8 ks[k]) (by
      have h0 := flatMap_get U8_len ks k 0 (by omega)
      rw [Nat.mul_one, Nat.add_zero] at h0
      rw [h0, List.getElem?_eq_getElem hk]; rfl)
    exact ⟨g, off, rfl, World.block_lt_of_cell? _ _ this, this⟩

abbrev ob2 (v : V2) : Obj := Obj.cells #[.int .i64 v.t, .int .i64 v.n] 77 (0, 0)
def OneRel (B : Nat) (w0 : World) (kind : Int) (N Bv : Nat) (s8 s9 s10 s11 s29 : Value) (wr : World) : Prop :=
  ∃ (k n m : Nat) (xs : List C6) (q : List V2) (now : Int) (v : V2) (al aq oo : Option Addr) (cl co cq : Nat) (Ll Lo Lq : List (Nat × Obj)),
    k ≤ N ∧ s29 = .int .i64 k ∧ s8 = .slice al n cl ∧ s9 = .slice oo n co ∧ s10 = .slice aq m cq ∧ s11 = .int .i64 now ∧ n ≤ k ∧ m ≤ k ∧ (1 ≤ now ∧ now ≤ 1 + 300 * k) ∧
    Hid (xs.length = n ∧ q.length = m ∧ HistOk kind xs now (if kind = 2 then [v] else q)) ∧ Hid (Sl 80 6 CC (.slice al n cl) xs Ll) ∧ Hid (Sl 3 1 I (.slice oo n co) (rng n) Lo) ∧ Hid (Sl 77 2 C2 (.slice aq m cq) q Lq) ∧
    Hid (Sh.Own B w0 wr ((Bv, ob2 v) :: (Ll ++ (Lo ++ (Lq ++ [])))))

theorem hist_later {kind : Int} {xs : List C6} {now now' : Int} {l : List V2} (h : HistOk kind xs now l) (hn : now ≤ now') : HistOk kind xs now' l :=
  ⟨fun i hi => ⟨(h.1 i hi).1, (h.1 i hi).2.1, by have := (h.1 i hi).2.2; omega⟩, h.2.1, h.2.2.1, by have := h.2.2.2; omega⟩

theorem q_a {B : Nat} {w0 w : World} {n c v : Nat × Obj} {Ll Lo Lq F : List (Nat × Obj)} (h : Sh.Own B w0 w (n :: c :: v :: (Ll ++ (Lo ++ (Lq ++ F))))) : Sh.Own B w0 w (Lq ++ (n :: c :: v :: (Ll ++ (Lo ++ F)))) :=
  h.shuf [[n, c, v], Ll, Lo, Lq, F] [3, 0, 1, 2, 4] rfl rfl
theorem q_b {B : Nat} {w0 w : World} {n c v : Nat × Obj} {Ll Lo Lq F : List (Nat × Obj)} (h : Sh.Own B w0 w (Lq ++ (n :: c :: v :: (Ll ++ (Lo ++ F))))) : Sh.Own B w0 w (c :: v :: (Ll ++ (Lo ++ (Lq ++ F)))) :=
  (h.shuf [Lq, [n], [c, v], Ll, Lo, F] [1, 2, 3, 4, 0, 5] rfl rfl).tail
theorem one_a {B : Nat} {w0 w : World} {n c v : Nat × Obj} {Ll Lo Lq F : List (Nat × Obj)} (h : Sh.Own B w0 w (n :: c :: v :: (Ll ++ (Lo ++ (Lq ++ F))))) : Sh.Own B w0 w (Ll ++ (n :: c :: v :: (Lo ++ (Lq ++ F)))) :=
  h.shuf [[n, c, v], Ll, Lo, Lq, F] [1, 0, 2, 3, 4] rfl rfl
theorem one_b {B : Nat} {w0 w : World} {z n c v : Nat × Obj} {Ll Lo Lq F : List (Nat × Obj)} (h : Sh.Own B w0 w (z :: (Ll ++ (n :: c :: v :: (Lo ++ (Lq ++ F)))))) : Sh.Own B w0 w (Lo ++ (z :: n :: c :: v :: (Ll ++ (Lq ++ F)))) :=
  h.shuf [[z], Ll, [n, c, v], Lo, Lq, F] [3, 0, 2, 1, 4, 5] rfl rfl
theorem one_c {B : Nat} {w0 w : World} {z n c v : Nat × Obj} {Ll Lo Lq F : List (Nat × Obj)} (h : Sh.Own B w0 w (Lo ++ (z :: n :: c :: v :: (Ll ++ (Lq ++ F))))) : Sh.Own B w0 w (v :: (Ll ++ (Lo ++ (Lq ++ F)))) :=
  (h.shuf [Lo, [z, n, c], [v], Ll, Lq, F] [1, 2, 3, 0, 4, 5] rfl rfl).tail.tail.tail

theorem with_qput {q : List V2} {who d now : Int} : withT 1 q ⟨who, 1, ⟨1, d⟩, now, now + 1⟩ = (q ++ [⟨1, d⟩], true) := withT_put rfl (by decide)
theorem with_qtake {y : V2} {r : List V2} {who now : Int} : withT 1 (y :: r) ⟨who, 2, y, now, now + 1⟩ = (r, true) := by
  rw [withT_cons (by simp) (by simp)]; simp
theorem with_rput {v : V2} {who d now : Int} : withT 2 [v] ⟨who, 1, ⟨1, d⟩, now, now + 1⟩ = ([⟨1, d⟩], true) := withT_put2 rfl
theorem with_rtake {v : V2} {who now : Int} (h : 1 ≤ now) : withT 2 [v] ⟨who, 2, v, now, now + 1⟩ = ([v], true) := by
  rw [withT_cons (by simp) (by simp; omega)]; simp

theorem own_take {B : Nat} {w0 w : World} {C : Nat} {R : List (Nat × Obj)} {who d now : Int} (h : Sh.Own B w0 w ((C, ob6 ⟨who, 1, ⟨1, d⟩, now, now + 1⟩) :: R)) (y : V2) :
    Sh.Own B w0 (((w.setCell ⟨C, 1, none⟩ (.int .i64 2)).setCell ⟨C, 2, none⟩ (.int .i64 y.t)).setCell ⟨C, 3, none⟩ (.int .i64 y.n)).drew ((C, ob6 ⟨who, 2, y, now, now + 1⟩) :: R) :=
  (((h.setTo 1 (.int .i64 2) rfl).setTo 2 (.int .i64 y.t) rfl).setTo 3 (.int .i64 y.n) rfl).drew
theorem own_vset {B : Nat} {w0 w : World} {V : Nat} {c : Nat × Obj} {R : List (Nat × Obj)} {v : V2} (h : Sh.Own B w0 w (c :: (V, ob2 v) :: R)) (d : Int) :
    Sh.Own B w0 ((w.setCell ⟨V, 0, none⟩ (.int .i64 1)).setCell ⟨V, 1, none⟩ (.int .i64 d)) (c :: (V, ob2 ⟨1, d⟩) :: R) :=
  own_swap (((own_swap h).setTo 0 (.int .i64 1) rfl).setTo 1 (.int .i64 d) rfl)

end Go.Proofs.Ytojcojoleodjmaa
