/-
  Contract of steals. Conditions: 1 to 16 workers, at most 1,024 threads in a queue.
-/
import Derived.Test.YtojcojoleodjmaaRqVict
namespace Go.Proofs.Ytojcojoleodjmaa
open Go.RowKit Go.Sh

section
variable {B : Nat} {w0 w : World} {b n : Nat} {vs : Nat → Value} {Ls : Nat → List (Nat × Obj)} {st : Int} {F L : List (Nat × Obj)} {k : Nat}

theorem q_put (hO : Own B w0 w (L ++ (qown b n vs Ls st ++ F))) (hk : k < 16) (v : Value) : Own B w0 (w.setCell ⟨b, 1 + k, none⟩ v) (qown b n (upd vs k v) (upd Ls k L) st ++ F) := by
  have h1 := (hO.perm ((qown_open b n vs Ls st F hk).append_left L)).perm (List.perm_append_comm_assoc _ _ _)
  have h2 := h1.right.perm List.perm_middle
  exact ((h2.setTo (1 + k) v (qcells_set n vs st hk v)).perm List.perm_middle.symm).perm (qown_shut b n vs Ls st F hk v L)

theorem q_same (hO : Own B w0 w (qown b n vs Ls st ++ F)) (hk : k < 16) (v : Value) : Own B w0 (w.setCell ⟨b, 1 + k, none⟩ v) (qown b n (upd vs k v) Ls st ++ F) :=
  Own.setTo (L := (List.range 16).flatMap Ls ++ F) hO (1 + k) v (qcells_set n vs st hk v)

theorem q_st (hO : Own B w0 w (qown b n vs Ls st ++ F)) (st' : Int) : Own B w0 (w.setCell ⟨b, 17, none⟩ (.int .i64 st')) (qown b n vs Ls st' ++ F) :=
  Own.setTo (L := (List.range 16).flatMap Ls ++ F) hO 17 _ (qcells_st n vs st st')

theorem q_get (hO : Own B w0 w (L ++ (qown b n vs Ls st ++ F))) : w.heap[b]? = some (qobj n vs st) := hO.get (b, qobj n vs st) (List.mem_append_right _ List.mem_cons_self)
theorem q_get0 (hO : Own B w0 w (qown b n vs Ls st ++ F)) : w.heap[b]? = some (qobj n vs st) := hO.get (b, qobj n vs st) List.mem_cons_self
theorem q_cell (hb : w.heap[b]? = some (qobj n vs st)) (hk : k < 16) : w.cell? ⟨b, 1 + k, none⟩ = some (vs k) := (cell_of_get hb (1 + k)).trans (qcells_k n vs st hk)

end

theorem Qs.setSame {vs Ls n ls} (h : Qs vs Ls n ls) {k : Nat} {v : Value} {xs : List Int} (hS : Sl 3 1 I v xs (Ls k)) (hx : xs.length ≤ 1024) : Qs (upd vs k v) Ls n (upd ls k xs) :=
  ⟨h.pos, h.top, fun i hi => by by_cases e : i = k <;> simp [upd, e, hS, h.sl i hi], fun i hi => by by_cases e : i = k <;> simp [upd, e, hx, h.len i hi]⟩

/-- Half of another one's queue. -/
def stealQ (n : Nat) (ls : Nat → List Int) (st : Int) (k : Nat) : Bool × (Nat → List Int) × Int := match victimQ n ls k with
  | none => (false, ls, st)
  | some v => (true, upd (upd ls k ((ls v).drop ((ls v).length / 2))) v ((ls v).take ((ls v).length / 2)), IntKind.i64.wrap (st + ((ls v).length - (ls v).length / 2 : Nat)))

def StealPost (B : Nat) (w0 : World) (b n : Nat) (F : List (Nat × Obj)) (r : Bool × (Nat → List Int) × Int) (e : Ending) (w' : World) : Prop :=
  e = .returned (.bool r.1) ∧ ∃ L', Qx b n r.2.1 r.2.2 L' ∧ Own B w0 w' (L' ++ F)

set_option maxRecDepth 100000 in
set_option maxHeartbeats 2000000 in
theorem steal_q (B : Nat) (w0 : World) (b n : Nat) (ls : Nat → List Int) (st : Int) (L F : List (Nat × Obj)) (k : Nat) (w : World) (hk : k < n) (hX : Qx b n ls st L) (hO : Own B w0 w (L ++ F)) :
    Calls Try.prog 47 #[.pointer (some ⟨b, 0, none⟩), .int .i64 k] w (StealPost B w0 b n F (stealQ n ls st k)) := by
  have hX' := hX
  obtain ⟨vs, Ls, hQ, rfl⟩ := hX'
  have hb := Lib.hid (hO.get (b, qobj n vs st) (List.mem_append_left _ List.mem_cons_self))
  have hpos := hQ.pos
  have htop := hQ.top
  have hk16 : (k : Int) < 16 := by omega
  cases hv : victimQ n ls k with
  | none =>
    have HR := Lib.hid (show stealQ n ls st k = (false, ls, st) by unfold stealQ; rw [hv])
    have HV := Lib.hid hv
    clear hv
    go_enter Try.func47, Try.ntmps47
    go_wp2_with (go_at_call 73; refine (victim_q b n vs Ls ls st k _ hk hQ hb.out).mono ?_; rintro e w' ⟨rfl, q, rfl⟩; rw [HV.out]; unfold encB; dsimp only)
    go_ret
    rw [HR.out]
    exact ⟨rfl, _, hX, hO.drewN q⟩
  | some v =>
    obtain ⟨hvn, hvl, hvk⟩ := victimQ_some hk hv
    have hv16 : (v : Int) < 16 := by omega
    have hlv := hQ.len v (by omega)
    obtain ⟨m, hm⟩ : ∃ m, m = (ls v).length / 2 := ⟨_, rfl⟩
    have HR := Lib.hid (show stealQ n ls st k = (true, upd (upd ls k ((ls v).drop m)) v ((ls v).take m), IntKind.i64.wrap (st + ((ls v).length - m : Nat))) by unfold stealQ; rw [hv, hm])
    have HV := Lib.hid hv
    have hml : m < (ls v).length := by omega
    have hmi : (m : Int) ≤ (ls v).length := by omega
    have hdiv : ((ls v).length : Int) / 2 = (m : Int) := by rw [hm]; push_cast; rfl
    have hs := hQ.sl v (by omega)
    have hcell : w.cell? ⟨b, 1 + v, none⟩ = some (vs v) := (cell_of_get hb.out (1 + v)).trans (qcells_k n vs st (by omega))
    rcases hs with ⟨_, he, _⟩ | ⟨g, off, cap, cur, hvv, hLv, hcap, hcm, hsz, hcur⟩
    · rw [he] at hvl; simp at hvl
    · rw [hvv] at hcell
      have hs := hQ.sl v (by omega)
      rw [hvv] at hs
      have ht := Lib.hid (hs.take I_len m (by omega))
      have hd := Lib.hid (hs.drop I_len m (by omega))
      rw [Nat.mul_one] at hd
      have hcapm : ¬ cap = m := by omega
      have hcapm2 : m ≤ cap := by omega
      have hlt := lt_of_get hb.out
      have hQ1 := Lib.hid hQ
      have HVV := Lib.hid hvv
      clear hm hv hs hvv hLv hsz hcur hX
      go_enter Try.func47, Try.ntmps47
      go_wp2_with (go_at_call 73; refine (victim_q b n vs Ls ls st k _ hk hQ1.out hb.out).mono ?_; rintro e w' ⟨rfl, q, rfl⟩; rw [HV.out]; unfold encB; dsimp only)
      have hO1 := hO.drewN q
      go_region_law (go_simp; go_at_call 52; refine (clone52 B w0 (qown b n vs Ls st ++ F) ((ls v).drop m) _ (Ls v) _ (by simpa using hd.out) (fun p hp => List.mem_append_left _ (List.mem_cons_of_mem _ (mem_fam (by omega) hp))) hO1.drew (by simp; omega)).mono ?_; rintro e w1 ⟨v1, L1, rfl, hS1, hO2⟩; obtain ⟨ao1, cap1, rfl, _, _⟩ := hS1.form; have k0 : w1.cell? ⟨b, 1 + k, none⟩ = some _ := (cell_of_get (hO2.get (b, qobj n vs st) (List.mem_append_right _ List.mem_cons_self)) (1 + k)).trans (qcells_k n vs st (by omega)); have k1 := free_of_get (hO2.get (b, qobj n vs st) (List.mem_append_right _ List.mem_cons_self)) (1 + k))
      all_goals
        have hO4 := q_put hO2 (k := k) (by omega) (.slice ao1 ((ls v).length - m) cap1)
        have hQ2 := hQ.set (k := k) (v := .slice ao1 ((ls v).length - m) cap1) (xs := (ls v).drop m) (by simpa using hS1) (by simp; omega)
        generalize hw5 : w1.setCell ⟨b, 1 + k, none⟩ (.slice ao1 ((ls v).length - m) cap1) = w5 at hO4 ⊢
        clear hw5 hO1 hO2 k0 k1 hcell hS1
        have hb5 := q_get0 hO4
        have hcv : w5.cell? ⟨b, 1 + v, none⟩ = some (.slice (some ⟨g, off, none⟩) (ls v).length cap) := by rw [q_cell hb5 (by omega), upd_other hvk, HVV.out]
        have hfv := free_of_get hb5 (1 + v)
        have hlt5 := lt_of_get hb5
        clear hb5 hO hQ
        go_wp2_with fail
        go_region_law (fail)
        all_goals
          have hO5 := (q_same hO4 (k := v) (by omega) (.slice (some ⟨g, off, none⟩) m cap)).drew
          have hQ3 := hQ2.setSame (k := v) (v := .slice (some ⟨g, off, none⟩) m cap) (xs := (ls v).take m) (by rw [upd_other hvk]; have := ht.out; rwa [show (.slice (some ⟨g, off, none⟩) m cap : Value) = .slice (some ⟨g, off, none⟩) ((ls v).take m).length cap by rw [List.length_take, Nat.min_eq_left (by omega)]] at this ⊢) (by simp; omega)
          generalize hw6 : (w5.setCell ⟨b, 1 + v, none⟩ (.slice (some ⟨g, off, none⟩) m cap)).drew = w6 at hO5 ⊢
          clear hw6 hcv hfv hO4 hQ2
          have hb6 := q_get0 hO5
          have hck : w6.cell? ⟨b, 1 + k, none⟩ = some (.slice ao1 ((ls v).length - m) cap1) := by rw [q_cell hb6 (by omega), upd_other (Ne.symm hvk), upd_same]
          have hc17 : w6.cell? ⟨b, 17, none⟩ = some (.int .i64 st) := cell_of_get hb6 17
          have hf17 := free_of_get hb6 17
          have hlt6 := lt_of_get hb6
          clear hb6
          go_wp2_with fail
          go_region_law (fail)
          all_goals
            have hO6 := (q_st hO5 (IntKind.i64.wrap (st + ((ls v).length - m : Nat)))).drew
            clear hO5 hck hc17 hf17
            go_wp2
            go_ret
            rw [HR.out]
            exact ⟨rfl, _, ⟨_, _, hQ3, rfl⟩, hO6⟩

end Go.Proofs.Ytojcojoleodjmaa
