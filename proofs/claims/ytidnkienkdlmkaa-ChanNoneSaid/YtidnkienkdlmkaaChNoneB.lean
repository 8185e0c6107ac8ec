/-
  The walk of shuttlelaw15.ChanNone: it returns true. No condition.
-/
import Derived.Test.YtidnkienkdlmkaaChNone
import Derived.Deep.RegionHeld3
import Derived.Deep.DeepCutAuto
namespace Go.Proofs.Ytidnkienkdlmkaa
open Go.RowKit Go.Sh

theorem NoneC.own {B : Nat} {w0 w : World} {F : List (Nat × Obj)} {p : Option Addr} (hO : Sh.Own B w0 w F) (h : p = none ∨ ∃ b, p = some ⟨b, 0, none⟩ ∧ (b, zeroC) ∈ F) : NoneC w p := by
  rcases h with h | ⟨b, h, hm⟩
  · exact .inl h
  · exact .inr ⟨b, h, cell_of_get (hO.get (b, zeroC) hm) 0⟩

theorem kd {w : World} {a : Addr} {v : Value} (h : w.cell? a = some v) : w.drew.cell? a = some v := h
theorem kp {w : World} {a : Addr} {v : Value} {o : Obj} (h : w.cell? a = some v) : (w.alloc o).cell? a = some v := by
  rw [World.cell?_alloc_some _ _ _ (by rw [h]; rfl)]; exact h
theorem ks {w : World} {p a : Addr} {v u : Value} (h : w.cell? a = some v) (hne : p.block ≠ a.block) : (w.setCell p u).cell? a = some v := by
  rw [World.cell?_setCell_far _ _ _ _ hne]; exact h

theorem csend_z1 (B : Nat) (w0 : World) (F : List (Nat × Obj)) {w : World} {p : Option Addr} (who n : Int) (h : NoneC w p) (hO : Sh.Own B w0 w F) : Calls Try.prog 44 #[.pointer p, .int .i64 who, .agg #[.int .i64 1, .int .i64 n]] w (ZOut B w0 F) :=
  csend_z B w0 F who ⟨1, n⟩ h hO

abbrev obox (x : W3) : Obj := Obj.cells #[.int .i64 x.who, .int .i64 x.t, .int .i64 x.n] 96 (0, 0)
abbrev pair2 (b : Nat) : Obj := Obj.cells #[.pointer none, .pointer (some ⟨b, 0, none⟩)] 91 (0, 0)

def CNoneRel (B : Nat) (w0 : World) (o b g : Nat) (x : W3) (ok i : Value) (wr : World) : Prop :=
  ∃ k : Nat, k ≤ 2 ∧ i = .int .i64 k ∧ ok = .bool false ∧ Sh.Own B w0 wr [(g, pair2 b), (b, zeroC), (o, obox x)]

set_option maxRecDepth 100000 in
set_option maxHeartbeats 8000000 in
theorem cnone13 (x : W3) (w : World) :
    Calls Try.prog 13 #[.agg #[.int .i64 x.who, .int .i64 x.t, .int .i64 x.n]] w fun e w' => e = .returned (.bool true) ∧ Below w.heap.size w w' := by
  have hO0 := (((Sh.Own.start w).alloc (obox x)).allocAt zeroC (n := w.heap.size + 1) (by simp)).allocAt (pair2 (w.heap.size + 1)) (n := w.heap.size + 1 + 1) (by simp)
  have HO0 := Lib.hid hO0
  clear hO0
  go_enter Try.func13, Try.ntmps13
  go_wp2
  go_loopw [2, 15] (fun ok i wr => CNoneRel w.heap.size w w.heap.size (w.heap.size + 1) (w.heap.size + 1 + 1) x ok i wr) (fun _ i _ => 2 - (intOf i).toNat)
  case atStart => exact ⟨0, Nat.zero_le _, rfl, rfl, HO0.out⟩
  case round =>
    obtain ⟨k, hk, rfl, rfl, hO1⟩ := hrel
    by_cases hlt : k < 2
    · have hS := hO1.get (w.heap.size + 1 + 1, _) List.mem_cons_self
      obtain ⟨p, hp, hM⟩ : ∃ p : Option Addr, wr.cell? ⟨w.heap.size + 1 + 1, k, none⟩ = some (.pointer p) ∧ (p = none ∨ ∃ b, p = some ⟨b, 0, none⟩ ∧ b = w.heap.size + 1) := by
        rcases (show k = 0 ∨ k = 1 by omega) with rfl | rfl
        · exact ⟨none, cell_of_get hS 0, .inl rfl⟩
        · exact ⟨some ⟨w.heap.size + 1, 0, none⟩, cell_of_get hS 1, .inr ⟨_, rfl, rfl⟩⟩
      have HM : Hid (∀ (F : List (Nat × Obj)), (w.heap.size + 1, zeroC) ∈ F → (p = none ∨ ∃ b, p = some ⟨b, 0, none⟩ ∧ (b, zeroC) ∈ F)) := by
        refine Lib.hid ?_
        intro F h
        rcases hM with h1 | ⟨b, h1, rfl⟩
        · exact .inl h1
        · exact .inr ⟨_, h1, h⟩
      have ho := hO1.get (w.heap.size, obox x) (by simp)
      have o0 : wr.cell? ⟨w.heap.size, 0, none⟩ = some (.int .i64 x.who) := cell_of_get ho 0
      have o1 : wr.cell? ⟨w.heap.size, 1, none⟩ = some (.int .i64 x.t) := cell_of_get ho 1
      have o2 : wr.cell? ⟨w.heap.size, 2, none⟩ = some (.int .i64 x.n) := cell_of_get ho 2
      have ol := lt_of_get ho
      have hnz := World.new_ne wr _ o0
      clear hS HO0 hM ho
      have HO1 := Lib.hid hO1
      clear hO1
      go_wp2
      go_upto_region 4 with fail
      go_cut [5, 6] (fun s5 s6 wx => ∃ z : Nat, s5 = .pointer (some ⟨z, 0, none⟩) ∧ s6 = .int .i64 2 ∧ Sh.Own w.heap.size w wx [(z, outZ), (w.heap.size + 1 + 1, pair2 (w.heap.size + 1)), (w.heap.size + 1, zeroC), (w.heap.size, obox x)])
      case first =>
        have HA := Lib.hid ((HO1.out.junk (.cells #[.int .i64 x.who, .int .i64 x.t, .int .i64 x.n] 96)).junk (.cells #[.int .i64 1, .int .i64 x.n] 30)).drew
        have HB := Lib.hid (((HO1.out.junk (.cells #[.int .i64 x.who, .int .i64 x.t, .int .i64 x.n] 96)).junk (.cells #[.int .i64 1, .int .i64 x.n] 30)).allocAt outZ (n := wr.heap.size + 1 + 1) (by simp)).drew
        have HC := Lib.hid (((HO1.out.alloc outZ).junk (.cells #[.int .i64 x.who, .int .i64 x.t, .int .i64 x.n] 96)).junk (.cells #[.int .i64 1, .int .i64 x.n] 30)).drew
        have hnz1 : wr.heap.size + 1 ≠ w.heap.size := by omega
        have hnz2 : wr.heap.size + 1 + 1 ≠ w.heap.size := by omega
        have ol1 : w.heap.size < wr.heap.size + 1 := by omega
        have ol2 : w.heap.size < wr.heap.size + 1 + 1 := by omega
        go_region_held3 (fun w' => w'.cell? ⟨w.heap.size, 0, none⟩ = some (.int .i64 x.who) ∧ w'.cell? ⟨w.heap.size, 1, none⟩ = some (.int .i64 x.t) ∧ w'.cell? ⟨w.heap.size, 2, none⟩ = some (.int .i64 x.n))
          (first
            | with_reducible exact ⟨k0, k1, k2⟩
            | ((refine ⟨?_, ?_, ?_⟩ <;> repeat (first | (with_reducible assumption) | (with_reducible refine kd ?_) | (with_reducible refine kp ?_) | (with_reducible refine ks ?_ ?_) | (dsimp only; omega))); done)
            | (go_keep; done)
            | fail "no keep")
          (first
            | (go_at_call 49; refine (value49 x.who x.t x.n _).mono ?_; rintro e w2 ⟨rfl, rfl⟩)
            | (go_at_call 44; (with_reducible refine (csend_z1 w.heap.size w _ x.t x.n (NoneC.own HA.out (HM.out _ (List.mem_cons_of_mem _ List.mem_cons_self))) HA.out).mono ?_); rintro e w3 ⟨rfl, hO3⟩; have hob := hO3.get (w.heap.size, obox x) (.tail _ (.tail _ (.head _))); have k0 : w3.cell? ⟨w.heap.size, 0, none⟩ = some (.int .i64 x.who) := cell_of_get hob 0; have k1 : w3.cell? ⟨w.heap.size, 1, none⟩ = some (.int .i64 x.t) := cell_of_get hob 1; have k2 : w3.cell? ⟨w.heap.size, 2, none⟩ = some (.int .i64 x.n) := cell_of_get hob 2; have hn3 := World.new_ne w3 _ k0; clear hob)
            | (go_at_call 44; (with_reducible refine (csend_z1 w.heap.size w _ x.t x.n (NoneC.own HB.out (HM.out _ (List.mem_cons_of_mem _ (List.mem_cons_of_mem _ List.mem_cons_self)))) HB.out).mono ?_); rintro e w3 ⟨rfl, hO3⟩; have hob := hO3.get (w.heap.size, obox x) (.tail _ (.tail _ (.tail _ (.head _)))); have k0 : w3.cell? ⟨w.heap.size, 0, none⟩ = some (.int .i64 x.who) := cell_of_get hob 0; have k1 : w3.cell? ⟨w.heap.size, 1, none⟩ = some (.int .i64 x.t) := cell_of_get hob 1; have k2 : w3.cell? ⟨w.heap.size, 2, none⟩ = some (.int .i64 x.n) := cell_of_get hob 2; have hn3 := World.new_ne w3 _ k0; obtain ⟨z0, z1, z2, z3, z4⟩ := z5 hO3.head; have zf := free_of_get hO3.head; have zl := lt_of_get hO3.head; clear hob)
            | (go_at_call 44; (with_reducible refine (csend_z1 w.heap.size w _ x.t x.n (NoneC.own HC.out (HM.out _ (List.mem_cons_of_mem _ (List.mem_cons_of_mem _ List.mem_cons_self)))) HC.out).mono ?_); rintro e w3 ⟨rfl, hO3⟩; have hob := hO3.get (w.heap.size, obox x) (.tail _ (.tail _ (.tail _ (.head _)))); have k0 : w3.cell? ⟨w.heap.size, 0, none⟩ = some (.int .i64 x.who) := cell_of_get hob 0; have k1 : w3.cell? ⟨w.heap.size, 1, none⟩ = some (.int .i64 x.t) := cell_of_get hob 1; have k2 : w3.cell? ⟨w.heap.size, 2, none⟩ = some (.int .i64 x.n) := cell_of_get hob 2; have hn3 := World.new_ne w3 _ k0; obtain ⟨z0, z1, z2, z3, z4⟩ := z5 hO3.head; have zf := free_of_get hO3.head; have zl := lt_of_get hO3.head; clear hob)
            | fail "no arm")
        all_goals
          go_wp2_with fail
          go_meet
          first
            | exact ⟨_, rfl, rfl, hO3.alloc outZ⟩
            | exact ⟨_, rfl, rfl, out5 hO3 _ _ _ _ _⟩
      case rest =>
        obtain ⟨z, rfl, rfl, hO2⟩ := hcut
        have o0 : wc.cell? ⟨w.heap.size, 0, none⟩ = some (.int .i64 x.who) := cell_of_get (hO2.get (w.heap.size, obox x) (by simp)) 0
        have o1 : wc.cell? ⟨w.heap.size, 1, none⟩ = some (.int .i64 x.t) := cell_of_get (hO2.get (w.heap.size, obox x) (by simp)) 1
        have o2 : wc.cell? ⟨w.heap.size, 2, none⟩ = some (.int .i64 x.n) := cell_of_get (hO2.get (w.heap.size, obox x) (by simp)) 2
        have ol := lt_of_get (hO2.get (w.heap.size, obox x) (by simp))
        go_wp2_with fail
        refine (crecv_z w.heap.size w _ x.t (NoneC.own hO2 (HM.out _ (by simp))) hO2).mono ?_
        rintro e w1 ⟨rfl, hO3⟩
        have hO4 := hO3.alloc outZ
        go_wp2_with fail
        refine (cclose_z w.heap.size w _ (NoneC.own hO4 (HM.out _ (by simp))) hO4).mono ?_
        rintro e w2 ⟨rfl, hO5⟩
        have hO6 := hO5.alloc outZ
        obtain ⟨a0, a1, a2, a3, a4⟩ := z5 (hO5.get (z, outZ) (by simp))
        have al := lt_of_get (hO5.get (z, outZ) (by simp))
        go_wp2_with fail
        refine (same24 w.heap.size w _ false 0 0 0 [] (.slice none 0 0) (.slice none 0 0) _ (.inl ⟨rfl, _, _, rfl⟩) (.inl ⟨rfl, _, _, rfl⟩) hO6 (by simp)).mono ?_
        rintro e w3 ⟨rfl, hO7⟩
        obtain ⟨b0, b1, b2, b3, b4⟩ := z5 (hO7.get (w1.heap.size, outZ) (by simp))
        have bl := lt_of_get (hO7.get (w1.heap.size, outZ) (by simp))
        go_wp2_with fail
        refine (same24 w.heap.size w _ false 0 0 0 [] (.slice none 0 0) (.slice none 0 0) _ (.inl ⟨rfl, _, _, rfl⟩) (.inl ⟨rfl, _, _, rfl⟩) hO7 (by simp)).mono ?_
        rintro e w4 ⟨rfl, hO8⟩
        obtain ⟨c0, c1, c2, c3, c4⟩ := z5 (hO8.get (w2.heap.size, outZ) (by simp))
        have cl := lt_of_get (hO8.get (w2.heap.size, outZ) (by simp))
        go_wp2_with fail
        refine (same24 w.heap.size w _ false 0 0 0 [] (.slice none 0 0) (.slice none 0 0) _ (.inl ⟨rfl, _, _, rfl⟩) (.inl ⟨rfl, _, _, rfl⟩) hO8 (by simp)).mono ?_
        rintro e w5 ⟨rfl, hO9⟩
        have o0 : w5.cell? ⟨w.heap.size, 0, none⟩ = some (.int .i64 x.who) := cell_of_get (hO9.get (w.heap.size, obox x) (by simp)) 0
        have o1 : w5.cell? ⟨w.heap.size, 1, none⟩ = some (.int .i64 x.t) := cell_of_get (hO9.get (w.heap.size, obox x) (by simp)) 1
        have o2 : w5.cell? ⟨w.heap.size, 2, none⟩ = some (.int .i64 x.n) := cell_of_get (hO9.get (w.heap.size, obox x) (by simp)) 2
        have ol := lt_of_get (hO9.get (w.heap.size, obox x) (by simp))
        go_wp2_with fail
        refine (cdrop_z x.t (NoneC.own hO9 (HM.out _ (by simp)))).mono ?_
        rintro e w' ⟨rfl, rfl⟩
        go_wp2_with fail
        refine (clen_z (NoneC.own hO9 (HM.out _ (by simp)))).mono ?_
        rintro e w' ⟨rfl, rfl⟩
        go_wp2_with fail
        refine (croom_z (NoneC.own hO9 (HM.out _ (by simp)))).mono ?_
        rintro e w' ⟨rfl, rfl⟩
        go_wp2_with fail
        refine (cclosed_z (NoneC.own hO9 (HM.out _ (by simp)))).mono ?_
        rintro e w' ⟨rfl, rfl⟩
        go_wp2_with fail
        refine (all47 _ _).mono ?_
        rintro e w' ⟨rfl, rfl⟩
        have hOa := (hO9.alloc (.cells #[.pointer p] 91 (0, 0)))
        go_wp2_with fail
        refine (told46_z w.heap.size w _ p w5.heap.size 9 _ (NoneC.own hOa (HM.out _ (by simp))) hOa (cell_of_get hOa.head 0)).mono ?_
        rintro e w6 ⟨v, Lv, rfl, hSv, hOb⟩
        have hOc := hOb.right
        obtain ⟨ao, cap, rfl⟩ : ∃ ao cap, v = .slice ao 0 cap := by
          rcases hSv with ⟨rfl, _⟩ | ⟨g, off, cap, cur, rfl, _⟩
          · exact ⟨none, 0, rfl⟩
          · exact ⟨_, cap, rfl⟩
        clear hSv hOb
        go_wp2_with fail
        refine (csenders_z (NoneC.own hOc (HM.out _ (by simp)))).mono ?_
        rintro e w' ⟨rfl, rfl⟩
        go_wp2_with fail
        refine (creceivers_z (NoneC.own hOc (HM.out _ (by simp)))).mono ?_
        rintro e w' ⟨rfl, rfl⟩
        go_wp2_with fail
        refine (cclone_z (NoneC.own hOc (HM.out _ (by simp)))).mono ?_
        rintro e w' ⟨rfl, rfl⟩
        go_wp2_with fail
        go_roundw
        case rel => exact ⟨k + 1, by omega, by go_num, rfl, hOc.tail.tail.tail.tail⟩
        case measure => simp [intOf]; omega
    · go_wp2_with fail
      refine (awake42 w.heap.size w _ _ hO1).mono ?_
      rintro e w1 ⟨rfl, hO2⟩
      go_wp2
      go_ret
      exact ⟨rfl, hO2.below⟩

end Go.Proofs.Ytidnkienkdlmkaa
