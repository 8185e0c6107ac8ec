/-
  The walk of shuttlelaw17.CondDoes: it returns true. No condition.
-/
import Derived.Test.YtidnkienkdlmkaaRcF
import Derived.Test.YtidnkienkdlmkaaCdI
import Derived.Test.YtidnkienkdlmkaaCdArg
import Derived.Test.YtidnkienkdlmkaaMxDoes
import Derived.Deep.RegionHeld3
import Derived.Deep.DeepCutAuto
import Derived.Deep.CutBlock
import Derived.Deep.DrawnRows
import Derived.Carry
namespace Go.Proofs.Ytidnkienkdlmkaa
open Go.RowKit Go.Sh

theorem unlockR_len (own : Option Int) (ws : List Int) (who : Int) : (unlockR own ws who).wakes.length ≤ 1 := by
  rcases unlockR_cases own ws who with h | h | ⟨_, _, h⟩ | ⟨_, _, _, _, h⟩ <;> rw [h] <;> simp

theorem sevK_len : ∀ (n : Nat) (s : KS), (sevK n s).1.length ≤ n
  | 0, s => by simp [sevK]
  | n + 1, s => by
    have h1 := onK_len s
    have h2 := sevK_len n (onK s).2
    simp only [sevK, List.length_append]
    omega

theorem doesK_len (s : KS) (d who : Int) (m : Bool) (h : s.q.length ≤ 256) : (doesK s d who m).wakes.length ≤ 256 := by
  have h1 := unlockR_len (s.own m) (s.ws m) who
  have h2 := sevK_len (min s.q.length 1) s
  have h3 := sevK_len s.q.length s
  unfold doesK
  split
  · simp
  · split
    · show (unlockR (s.own m) (s.ws m) who).wakes.length ≤ 256
      omega
    · split
      · unfold waitK
        split
        · simp
        · split
          · simp
          · split
            · simp
            · show (unlockR (s.own m) (s.ws m) who).wakes.length ≤ 256
              omega
      · split
        · show (sevK (min s.q.length 1) s).1.length ≤ 256
          omega
        · split
          · show (sevK s.q.length s).1.length ≤ 256
            omega
          · split <;> simp

def DRel (B : Nat) (w0 : World) (bx bc b0 b1 rx rc r0 r1 N : Nat) (i : Value) (wr : World) : Prop :=
  ∃ (k : Nat) (s : KS) (L Lr : List (Nat × Obj)), k ≤ N ∧ i = .int .i64 k ∧ Wx bx bc b0 b1 s L ∧ Wr rx rc r0 r1 s Lr ∧ Own B w0 wr (L ++ Lr)

def D2Rel (B : Nat) (w0 : World) (X : List (Nat × Obj)) (i : Value) (wr : World) : Prop :=
  ∃ j : Nat, j ≤ 2 ∧ i = .int .i64 j ∧ Own B w0 wr X

theorem dS {B : Nat} {w0 w' : World} {X : List (Nat × Obj)} {Za Zb bx bc b0 b1 rx rc r0 r1 : Nat} {d : Bool} {f : Int} {va vb : Value} (h : Own B w0 w' X) (m1 : (Za, outO d 0 0 f va) ∈ X) (m2 : (Zb, outO d 0 0 f vb) ∈ X) (m3 : (bx, gobjW bc b0 b1) ∈ X) (m4 : (rx, gobjR rc r0 r1) ∈ X) :
    (w'.cell? ⟨Za, 0, none⟩ = some (.bool d) ∧ w'.cell? ⟨Za, 1, none⟩ = some (.int .i64 0) ∧ w'.cell? ⟨Za, 2, none⟩ = some (.int .i64 0) ∧ w'.cell? ⟨Za, 3, none⟩ = some (.int .i64 f) ∧ w'.cell? ⟨Za, 4, none⟩ = some va) ∧
    (w'.cell? ⟨Zb, 0, none⟩ = some (.bool d) ∧ w'.cell? ⟨Zb, 1, none⟩ = some (.int .i64 0) ∧ w'.cell? ⟨Zb, 2, none⟩ = some (.int .i64 0) ∧ w'.cell? ⟨Zb, 3, none⟩ = some (.int .i64 f) ∧ w'.cell? ⟨Zb, 4, none⟩ = some vb) ∧
    w'.cell? ⟨bx, 0, none⟩ = some (.pointer (some ⟨bc, 0, none⟩)) ∧ w'.cell? ⟨rx, 0, none⟩ = some (.pointer (some ⟨rc, 0, none⟩)) :=
  ⟨z5 (h.get _ m1), z5 (h.get _ m2), (gob3 (h.get _ m3)).1, (gor3 (h.get _ m4)).1⟩

theorem dM0 {B : Nat} {w0 w' : World} {X : List (Nat × Obj)} {bx bc b0 b1 rx rc r0 r1 : Nat} {own : Option Int} {v : Value} (h : Own B w0 w' X) (m1 : (bx, gobjW bc b0 b1) ∈ X) (m2 : (rx, gobjR rc r0 r1) ∈ X) (m3 : (r0, Obj.cells #[.int .i64 (hasV own), v] 87 (0, 0)) ∈ X) :
    w'.cell? ⟨bx, 1, none⟩ = some (.pointer (some ⟨b0, 0, none⟩)) ∧ w'.cell? ⟨rx, 1, none⟩ = some (.pointer (some ⟨r0, 0, none⟩)) ∧ w'.cell? ⟨r0, 0, none⟩ = some (.int .i64 (hasV own)) ∧ w'.cell? ⟨r0, 1, none⟩ = some v :=
  ⟨(gob3 (h.get _ m1)).2.1, (gor3 (h.get _ m2)).2.1, cell_of_get (h.get _ m3) 0, cell_of_get (h.get _ m3) 1⟩

theorem dM1 {B : Nat} {w0 w' : World} {X : List (Nat × Obj)} {bx bc b0 b1 rx rc r0 r1 : Nat} {own : Option Int} {v : Value} (h : Own B w0 w' X) (m1 : (bx, gobjW bc b0 b1) ∈ X) (m2 : (rx, gobjR rc r0 r1) ∈ X) (m3 : (r1, Obj.cells #[.int .i64 (hasV own), v] 87 (0, 0)) ∈ X) :
    w'.cell? ⟨bx, 2, none⟩ = some (.pointer (some ⟨b1, 0, none⟩)) ∧ w'.cell? ⟨rx, 2, none⟩ = some (.pointer (some ⟨r1, 0, none⟩)) ∧ w'.cell? ⟨r1, 0, none⟩ = some (.int .i64 (hasV own)) ∧ w'.cell? ⟨r1, 1, none⟩ = some v :=
  ⟨(gob3 (h.get _ m1)).2.2, (gor3 (h.get _ m2)).2.2, cell_of_get (h.get _ m3) 0, cell_of_get (h.get _ m3) 1⟩

set_option maxRecDepth 100000 in
set_option maxHeartbeats 8000000 in
theorem does9 (xs : List K3) (ao : Option Addr) (cap : Nat) (w : World) (hR : Rd w CK3 (.slice ao xs.length cap) xs) (_ : ∀ x ∈ xs, True) (hx : xs.length ≤ 9223372036854775807) (hcap : xs.length ≤ cap) :
    Calls Try.prog 9 #[.slice ao xs.length cap] w fun e w' => e = .returned (.bool true) ∧ Below w.heap.size w w' := by
  obtain ⟨ao', cap', he, r1⟩ := rd_k3 hR
  simp only [Value.slice.injEq, true_and] at he
  obtain ⟨rfl, rfl⟩ := he
  have R1 := Lib.hid r1
  obtain ⟨N, hN1, hN2, hmin⟩ : ∃ N : Nat, N ≤ xs.length ∧ N ≤ 100 ∧ (if (100 : Int) < (xs.length : Int) then 100 else (xs.length : Int)) = (N : Int) := ⟨min xs.length 100, by omega, by omega, by split <;> omega⟩
  clear hR r1
  have hO0 := Own.start w
  go_enter Try.func9, Try.ntmps9
  go_wp2_with fail
  refine (begun29 w.heap.size w [] _ hO0).mono ?_
  rintro e w1 ⟨bx, bc, b0, b1, L0, rfl, hX, hO1⟩
  have hO2 := ((((hO1.allocAt (robj (.slice none 0 0)) (n := w1.heap.size) rfl).allocAt (.cells #[.int .i64 (-1), .slice none 0 0] 87) (n := w1.heap.size + 1) (by simp)).allocAt (.cells #[.int .i64 (-1), .slice none 0 0] 87) (n := w1.heap.size + 1 + 1) (by simp)).allocAt (gobjR w1.heap.size (w1.heap.size + 1) (w1.heap.size + 1 + 1)) (n := w1.heap.size + 1 + 1 + 1) (by simp)).shuf [[_], [_], [_], [_], L0, []] [4, 0, 3, 2, 1, 5] rfl rfl
  have hWr : Wr (w1.heap.size + 1 + 1 + 1) w1.heap.size (w1.heap.size + 1) (w1.heap.size + 1 + 1) ks0 [(w1.heap.size + 1 + 1 + 1, gobjR w1.heap.size (w1.heap.size + 1) (w1.heap.size + 1 + 1)), (w1.heap.size, robj (.slice none 0 0)), (w1.heap.size + 1, Obj.cells #[.int .i64 (-1), .slice none 0 0] 87 (0, 0)), (w1.heap.size + 1 + 1, Obj.cells #[.int .i64 (-1), .slice none 0 0] 87 (0, 0))] :=
    ⟨_, rfl, _, _, _, rfl, Rkx.new _, Rm.new _, Rm.new _⟩
  have HX := Lib.hid hX
  have HW := Lib.hid hWr
  have HO2 := Lib.hid hO2
  clear hO0 hO1 hO2 hX hWr
  go_wp2_with (go_at_call 26; refine (rnew26 _).mono ?_; rintro e w' ⟨rfl, rfl⟩)
  refine (awake30 w.heap.size w _ _ HO2.out).mono ?_
  rintro e w2 ⟨rfl, hO3⟩
  obtain ⟨rc, hrc⟩ : ∃ rc, w1.heap.size = rc := ⟨_, rfl⟩
  rw [hrc] at HW hO3 ⊢
  clear HO2 hrc
  generalize rc + 1 + 1 + 1 = rx at HW hO3 ⊢
  generalize rc + 1 + 1 = r1 at HW hO3 ⊢
  generalize rc + 1 = r0 at HW hO3 ⊢
  have HO3 := Lib.hid hO3
  clear hO3
  go_wp2
  clear hmin
  go_loopw [34] (fun i wr => DRel w.heap.size w bx bc b0 b1 rx rc r0 r1 N i wr) (fun i _ => N - (intOf i).toNat)
  case atStart => exact ⟨0, ks0, L0, _, Nat.zero_le _, rfl, HX.out, HW.out, by simpa [cat] using HO3.out⟩
  case round =>
    clear HO3 HX HW
    obtain ⟨k, s, L, Lr, hk, rfl, hX, hW, hO⟩ := hrel
    by_cases hlt : k < N
    · obtain ⟨g, off, rfl, hgl, e0, e1, e2⟩ := R1.out k (by omega)
      have c0 := (hO.below.cell (p := ⟨g, off + k * 3, none⟩) hgl).trans e0
      have c1 := (hO.below.cell (p := ⟨g, off + k * 3 + 1, none⟩) hgl).trans e1
      have c2 := (hO.below.cell (p := ⟨g, off + k * 3 + 2, none⟩) hgl).trans e2
      have hkx : k < xs.length := by omega
      clear e0 e1 e2
      obtain ⟨⟨d, who, m⟩, hop⟩ : ∃ x, xs[k] = x := ⟨_, rfl⟩
      rw [hop] at c0 c1 c2
      dsimp only at c0 c1 c2
      clear hop
      have hlq : s.q.length ≤ 256 := by obtain ⟨_, _, h⟩ := hX; exact h.lenq
      obtain ⟨O, hOe⟩ : ∃ O, wr.heap.size = O := ⟨_, rfl⟩
      have HO4 := Lib.hid ((hO.allocAt (opbx d who m) (n := O) hOe).shuf [[_], L, Lr] [1, 2, 0] rfl rfl)
      have hrl := doesK_len s d who m hlq
      obtain ⟨r, hr⟩ : ∃ r, doesK s d who m = r := ⟨_, rfl⟩
      rw [hr] at hrl
      have HR := Lib.hid hr
      have HX := Lib.hid hX
      have HW := Lib.hid hW
      clear hO hr hX hW
      obtain ⟨rd, rf, rw', re, st⟩ := r
      dsimp only at hrl
      go_wp2_with fail
      refine (does31 w.heap.size w bx bc b0 b1 s L _ d who m _ HX.out HO4.out).mono ?_
      rw [HR.out]
      rintro e w3 ⟨wka, Lka, La, rfl, hKa, hXa, hO5⟩
      dsimp only at hKa hXa ⊢
      obtain ⟨aa, ca, rfl, _, _⟩ := hKa.form
      obtain ⟨o0, o1, o2⟩ := opb3 (hO5.get (O, opbx d who m) (by simp [cat]))
      have ol := lt_of_get (hO5.get (O, opbx d who m) (by simp [cat]))
      obtain ⟨Za, hZa⟩ : ∃ Za, w3.heap.size = Za := ⟨_, rfl⟩
      have ol2 : O < Za := by omega
      have HO5 := Lib.hid ((hO5.allocAt (outO rd 0 0 rf (.slice aa rw'.length ca)) (n := Za) hZa).shuf [[_], La, Lka, Lr, [_]] [3, 0, 1, 2, 4] rfl rfl)
      have HKA := Lib.hid hKa
      have HXA := Lib.hid hXa
      clear hO5 hKa hXa c0 c1 c2 HO4 HX hOe
      go_wp2_with fail
      refine (rdoes39 w.heap.size w rx rc r0 r1 s Lr _ d who m _ HW.out HO5.out).mono ?_
      rw [HR.out]
      rintro e w4 ⟨wkb, Lkb, Lb, rfl, hKb, hXb, hO6⟩
      dsimp only at hKb hXb ⊢
      obtain ⟨ab, cb, rfl, _, _⟩ := hKb.form
      clear hZa
      have hO7 := (hO6.allocAt (outO rd 0 0 rf (.slice ab rw'.length cb)) (n := w4.heap.size) rfl).shuf [[_], Lb, Lkb, [_], La, Lka, [_]] [0, 3, 4, 1, 5, 2, 6] rfl rfl
      have HKB := Lib.hid hKb
      have HXB := Lib.hid hXb
      clear hO6 hKb hXb HO5 HW o0 o1 o2 ol
      go_upto_region 10 with fail
      obtain ⟨Zb, hZb⟩ : ∃ Zb, w4.heap.size = Zb := ⟨_, rfl⟩
      rw [hZb] at hO7 ⊢
      generalize w4.alloc (.cells #[.bool rd, .int .i64 0, .int .i64 0, .int .i64 rf, .slice ab rw'.length cb] 33) = W at hO7 ⊢
      clear hZb
      obtain ⟨Lkx, rfl, hKx⟩ := HXA.out
      obtain ⟨Lkr, rfl, hKr⟩ := HXB.out
      obtain ⟨X, hXe⟩ : ∃ X, cat [[(Zb, outO rd 0 0 rf (.slice ab rw'.length cb))], [(Za, outO rd 0 0 rf (.slice aa rw'.length ca))], (bx, gobjW bc b0 b1) :: Lkx, (rx, gobjR rc r0 r1) :: Lkr, Lka, Lkb, [(O, opbx d who m)]] = X := ⟨_, rfl⟩
      have hO8 : Own w.heap.size w W X := by rw [← hXe]; exact hO7
      have M1 := Lib.hid (show (Za, outO rd 0 0 rf (.slice aa rw'.length ca)) ∈ X by rw [← hXe]; simp [cat])
      have M2 := Lib.hid (show (Zb, outO rd 0 0 rf (.slice ab rw'.length cb)) ∈ X by rw [← hXe]; simp [cat])
      have M3 := Lib.hid (show (bx, gobjW bc b0 b1) ∈ X by rw [← hXe]; simp [cat])
      have M4 := Lib.hid (show (rx, gobjR rc r0 r1) ∈ X by rw [← hXe]; simp [cat])
      have HA := Lib.hid (show ∀ p ∈ Lka, p ∈ X by intro p hp; rw [← hXe]; simp [cat, hp])
      have HBm := Lib.hid (show ∀ p ∈ Lkb, p ∈ X by intro p hp; rw [← hXe]; simp [cat, hp])
      have HLX := Lib.hid (show ∀ p ∈ Lkx, p ∈ X by intro p hp; rw [← hXe]; simp [cat, hp])
      have HRX := Lib.hid (show ∀ p ∈ Lkr, p ∈ X by intro p hp; rw [← hXe]; simp [cat, hp])
      have HBK := Lib.hid (show ∀ w', Own w.heap.size w w' X → Own w.heap.size w w' (((bx, gobjW bc b0 b1) :: Lkx) ++ ((rx, gobjR rc r0 r1) :: Lkr)) by
        intro w' h
        rw [← hXe] at h
        have h1 := (h.tail.tail).shuf [(bx, gobjW bc b0 b1) :: Lkx, (rx, gobjR rc r0 r1) :: Lkr, Lka, Lkb, [(O, opbx d who m)]] [2, 3, 4, 0, 1] rfl rfl
        exact h1.right.right.right)
      have hS := dS hO8 M1.out M2.out M3.out M4.out
      have HOD := Lib.hid hO8.drew
      have HLN := Lib.hid (show rw'.length ≤ 100000 by omega)
      have hlq2 := hKx.lenq
      have HLQ := Lib.hid (show (st.q.map Prod.fst).length ≤ 100000 by simp; omega)
      have HKX := Lib.hid hKx
      have HKR := Lib.hid hKr
      clear hO7 hXe hO8 hKx hKr hlq2 hlq hrl
      go_cut [72] (fun s72 wx => s72 = .bool false ∧ Own w.heap.size w wx X)
      case first =>
        go_region_held3 (fun w' => (w'.cell? ⟨Za, 0, none⟩ = some (.bool rd) ∧ w'.cell? ⟨Za, 1, none⟩ = some (.int .i64 0) ∧ w'.cell? ⟨Za, 2, none⟩ = some (.int .i64 0) ∧ w'.cell? ⟨Za, 3, none⟩ = some (.int .i64 rf) ∧ w'.cell? ⟨Za, 4, none⟩ = some (.slice aa rw'.length ca)) ∧ (w'.cell? ⟨Zb, 0, none⟩ = some (.bool rd) ∧ w'.cell? ⟨Zb, 1, none⟩ = some (.int .i64 0) ∧ w'.cell? ⟨Zb, 2, none⟩ = some (.int .i64 0) ∧ w'.cell? ⟨Zb, 3, none⟩ = some (.int .i64 rf) ∧ w'.cell? ⟨Zb, 4, none⟩ = some (.slice ab rw'.length cb)) ∧ w'.cell? ⟨bx, 0, none⟩ = some (.pointer (some ⟨bc, 0, none⟩)) ∧ w'.cell? ⟨rx, 0, none⟩ = some (.pointer (some ⟨rc, 0, none⟩)))
          (first
            | with_reducible exact hS
            | (go_keep; done)
            | fail "no keep")
          (first
            | (go_at_call 20; (with_reducible refine (equal20_same w.heap.size w _ (st.q.map Prod.fst) _ _ _ (Sl_rd hS6 (fun p hp => hOz.get p (hz6 p hp))) (Sl_rd hS7 (fun p hp => hOz.get p (hz7 p hp))) hOz HLQ.out).mono ?_); rintro e w8 ⟨rfl, hOf⟩; have hS := dS hOf.right.right M1.out M2.out M3.out M4.out)
            | (go_at_call 37; (with_reducible refine (kwaits37 w.heap.size w bc b0 b1 st Lkx _ _ HKX.out (fun p hp => List.mem_append_right _ (HLX.out p hp)) hO7).mono ?_); rintro e w6 ⟨v6, L6, rfl, hS6, hOz⟩; have hz6 := (fun p hp => List.mem_append_left _ hp : ∀ p ∈ L6, p ∈ L6 ++ (L7 ++ X)); have hz7 := (fun p hp => List.mem_append_right _ (List.mem_append_left _ hp) : ∀ p ∈ L7, p ∈ L6 ++ (L7 ++ X)); have hS := dS hOz.right.right M1.out M2.out M3.out M4.out)
            | (go_at_call 40; (with_reducible refine (rwho40 w.heap.size w rc r0 r1 st Lkr _ _ HKR.out (fun p hp => List.mem_append_right _ (HRX.out p hp)) hO6).mono ?_); rintro e w7 ⟨v7, L7, rfl, hS7, hOz⟩; have hz6 := (fun p hp => List.mem_append_right _ (List.mem_append_left _ hp) : ∀ p ∈ L6, p ∈ L7 ++ (L6 ++ X)); have hz7 := (fun p hp => List.mem_append_left _ hp : ∀ p ∈ L7, p ∈ L7 ++ (L6 ++ X)); have hS := dS hOz.right.right M1.out M2.out M3.out M4.out)
            | (go_at_call 37; (with_reducible refine (kwaits37 w.heap.size w bc b0 b1 st Lkx X _ HKX.out HLX.out hOe).mono ?_); rintro e w6 ⟨v6, L6, rfl, hS6, hO6⟩; have hS := dS hO6.right M1.out M2.out M3.out M4.out)
            | (go_at_call 40; (with_reducible refine (rwho40 w.heap.size w rc r0 r1 st Lkr X _ HKR.out HRX.out hOe).mono ?_); rintro e w7 ⟨v7, L7, rfl, hS7, hO7⟩; have hS := dS hO7.right M1.out M2.out M3.out M4.out)
            | (go_at_call 24; (with_reducible refine (same24 w.heap.size w X rd 0 0 rf rw' _ _ _ (Sl_rd HKA.out (fun p hp => HOD.out.get p (HA.out p hp))) (Sl_rd HKB.out (fun p hp => HOD.out.get p (HBm.out p hp))) HOD.out HLN.out).mono ?_); rintro e w5 ⟨rfl, hOe⟩; have hS := dS hOe M1.out M2.out M3.out M4.out)
            | fail "no arm")
        all_goals
          have HOF := Lib.hid hOf.right.right
          clear hOf hOz hS6 hS7 hS
          go_wp2_with fail
          go_meet
          exact ⟨rfl, HOF.out⟩
      case rest =>
        obtain ⟨rfl, hO9⟩ := hcut
        have HO9 := Lib.hid hO9
        clear hO9 hS HOD
        go_wp2
        go_loopw [73] (fun i wl => D2Rel w.heap.size w X i wl) (fun i _ => 2 - (intOf i).toNat)
        case atStart => exact ⟨0, by omega, rfl, HO9.out⟩
        case round =>
          clear HO9
          obtain ⟨j, hj, rfl, hO⟩ := hrel
          have hKx := HKX.out
          have hKr := HKR.out
          obtain rfl | rfl | rfl : j = 0 ∨ j = 1 ∨ j = 2 := by omega
          · obtain ⟨Lm, hMx, hLm⟩ := hKx.mem false
            obtain ⟨Lrm, ⟨⟨vm, Lv, rfl, hn, hsm, hlm⟩, _⟩, hLr⟩ := hKr.mem false
            obtain ⟨own, hown⟩ : ∃ own, st.own false = own := ⟨_, rfl⟩
            obtain ⟨ws, hws⟩ : ∃ ws, st.ws false = ws := ⟨_, rfl⟩
            rw [hown, hws] at hMx
            rw [hown] at hn
            rw [hws] at hsm hlm
            obtain ⟨am, cm, rfl, _, _⟩ := hsm.form
            have M5 : Hid ((r0, Obj.cells #[.int .i64 (hasV own), .slice am ws.length cm] 87 (0, 0)) ∈ X) := Lib.hid (by rw [← hown]; exact HRX.out _ (hLr _ List.mem_cons_self))
            have HMX : Hid (Mx b0 own ws Lm) := Lib.hid hMx
            have HLM := Lib.hid (fun p hp => HLX.out p (hLm p hp) : ∀ p ∈ Lm, p ∈ X)
            have HSM := Lib.hid hsm
            have HRM := Lib.hid (fun p hp => HRX.out p (hLr p (List.mem_cons_of_mem _ hp)) : ∀ p ∈ Lv, p ∈ X)
            have hg := Lib.hid (fun p hp => hO.get p (HLM.out p hp) : ∀ p ∈ Lm, wr.heap[p.1]? = some p.2)
            have HOD := Lib.hid hO.drew
            have hS := dM0 (own := own) hO M3.out M4.out M5.out
            clear hMx hsm hLm hLr hown hws hO
            cases own with
            | none =>
              clear hn
              dsimp only [hasV, Option.getD_none] at hS
              obtain ⟨k0, k1, k2, k3⟩ := hS
              go_wp2_with (go_at_call 19; refine (owner_any b0 none ws Lm _ HMX.out hg.out).mono ?_; rintro e w' ⟨rfl, rfl⟩; unfold ownV; dsimp only [Option.getD_some, Option.isSome_some, Option.getD_none, Option.isSome_none])
              go_region_held3 (fun w' => w'.cell? ⟨bx, 1, none⟩ = some (.pointer (some ⟨b0, 0, none⟩)) ∧ w'.cell? ⟨rx, 1, none⟩ = some (.pointer (some ⟨r0, 0, none⟩)) ∧ w'.cell? ⟨r0, 0, none⟩ = some (.int .i64 (-1)) ∧ w'.cell? ⟨r0, 1, none⟩ = some (.slice am ws.length cm))
                (first
                  | with_reducible exact hS
                  | (go_keep; done)
                  | fail "no keep")
                (first
                  | (go_at_call 20; (with_reducible refine (equal20_same w.heap.size w _ ws _ _ _ (Sl_rd hSw (fun p hp => hOw.get p (List.mem_append_left _ hp))) (Sl_rd HSM.out (fun p hp => hOw.get p (List.mem_append_right _ (HRM.out p hp)))) hOw (by omega)).mono ?_); rintro e w6 ⟨rfl, hOz⟩; have hS := dM0 (own := none) hOz.right M3.out M4.out M5.out; dsimp only [hasV, Option.getD_none, Option.getD_some] at hS)
                  | (go_at_call 21; (with_reducible refine (waits_any w.heap.size w b0 none ws Lm X _ HMX.out HOD.out HLM.out).mono ?_); rintro e w5 ⟨vw, Lw, rfl, hSw, hOw⟩; have hS := dM0 (own := none) hOw.right M3.out M4.out M5.out; dsimp only [hasV, Option.getD_none, Option.getD_some] at hS)
                  | fail "no arm")
              all_goals
                have HOZ := Lib.hid hOz.right
                clear hOz hOw hSw hS
                go_wp2
                exact ⟨⟨1, by omega, by go_num, HOZ.out⟩, by simp [intOf]⟩
            | some y =>
              have hx0 := hn y rfl
              clear hn
              dsimp only [hasV, Option.getD_some] at hS
              obtain ⟨k0, k1, k2, k3⟩ := hS
              have hdx : decide (0 ≤ y) = true := by simp [hx0]
              have hmx : (if y < 0 then 0 else y) = y := if_neg (by omega)
              go_wp2_with (go_at_call 19; refine (owner_any b0 (some y) ws Lm _ HMX.out hg.out).mono ?_; rintro e w' ⟨rfl, rfl⟩; unfold ownV; dsimp only [Option.getD_some, Option.isSome_some, Option.getD_none, Option.isSome_none])
              go_region_held3 (fun w' => w'.cell? ⟨bx, 1, none⟩ = some (.pointer (some ⟨b0, 0, none⟩)) ∧ w'.cell? ⟨rx, 1, none⟩ = some (.pointer (some ⟨r0, 0, none⟩)) ∧ w'.cell? ⟨r0, 0, none⟩ = some (.int .i64 y) ∧ w'.cell? ⟨r0, 1, none⟩ = some (.slice am ws.length cm))
                (first
                  | with_reducible exact hS
                  | (go_keep; done)
                  | fail "no keep")
                (first
                  | (go_at_call 20; (with_reducible refine (equal20_same w.heap.size w _ ws _ _ _ (Sl_rd hSw (fun p hp => hOw.get p (List.mem_append_left _ hp))) (Sl_rd HSM.out (fun p hp => hOw.get p (List.mem_append_right _ (HRM.out p hp)))) hOw (by omega)).mono ?_); rintro e w6 ⟨rfl, hOz⟩; have hS := dM0 (own := (some y)) hOz.right M3.out M4.out M5.out; dsimp only [hasV, Option.getD_none, Option.getD_some] at hS)
                  | (go_at_call 21; (with_reducible refine (waits_any w.heap.size w b0 (some y) ws Lm X _ HMX.out HOD.out HLM.out).mono ?_); rintro e w5 ⟨vw, Lw, rfl, hSw, hOw⟩; have hS := dM0 (own := (some y)) hOw.right M3.out M4.out M5.out; dsimp only [hasV, Option.getD_none, Option.getD_some] at hS)
                  | fail "no arm")
              all_goals
                have HOZ := Lib.hid hOz.right
                clear hOz hOw hSw hS
                go_wp2
                exact ⟨⟨1, by omega, by go_num, HOZ.out⟩, by simp [intOf]⟩
          · obtain ⟨Lm, hMx, hLm⟩ := hKx.mem true
            obtain ⟨Lrm, ⟨⟨vm, Lv, rfl, hn, hsm, hlm⟩, _⟩, hLr⟩ := hKr.mem true
            obtain ⟨own, hown⟩ : ∃ own, st.own true = own := ⟨_, rfl⟩
            obtain ⟨ws, hws⟩ : ∃ ws, st.ws true = ws := ⟨_, rfl⟩
            rw [hown, hws] at hMx
            rw [hown] at hn
            rw [hws] at hsm hlm
            obtain ⟨am, cm, rfl, _, _⟩ := hsm.form
            have M5 : Hid ((r1, Obj.cells #[.int .i64 (hasV own), .slice am ws.length cm] 87 (0, 0)) ∈ X) := Lib.hid (by rw [← hown]; exact HRX.out _ (hLr _ List.mem_cons_self))
            have HMX : Hid (Mx b1 own ws Lm) := Lib.hid hMx
            have HLM := Lib.hid (fun p hp => HLX.out p (hLm p hp) : ∀ p ∈ Lm, p ∈ X)
            have HSM := Lib.hid hsm
            have HRM := Lib.hid (fun p hp => HRX.out p (hLr p (List.mem_cons_of_mem _ hp)) : ∀ p ∈ Lv, p ∈ X)
            have hg := Lib.hid (fun p hp => hO.get p (HLM.out p hp) : ∀ p ∈ Lm, wr.heap[p.1]? = some p.2)
            have HOD := Lib.hid hO.drew
            have hS := dM1 (own := own) hO M3.out M4.out M5.out
            clear hMx hsm hLm hLr hown hws hO
            cases own with
            | none =>
              clear hn
              dsimp only [hasV, Option.getD_none] at hS
              obtain ⟨k0, k1, k2, k3⟩ := hS
              go_wp2_with (go_at_call 19; refine (owner_any b1 none ws Lm _ HMX.out hg.out).mono ?_; rintro e w' ⟨rfl, rfl⟩; unfold ownV; dsimp only [Option.getD_some, Option.isSome_some, Option.getD_none, Option.isSome_none])
              go_region_held3 (fun w' => w'.cell? ⟨bx, 2, none⟩ = some (.pointer (some ⟨b1, 0, none⟩)) ∧ w'.cell? ⟨rx, 2, none⟩ = some (.pointer (some ⟨r1, 0, none⟩)) ∧ w'.cell? ⟨r1, 0, none⟩ = some (.int .i64 (-1)) ∧ w'.cell? ⟨r1, 1, none⟩ = some (.slice am ws.length cm))
                (first
                  | with_reducible exact hS
                  | (go_keep; done)
                  | fail "no keep")
                (first
                  | (go_at_call 20; (with_reducible refine (equal20_same w.heap.size w _ ws _ _ _ (Sl_rd hSw (fun p hp => hOw.get p (List.mem_append_left _ hp))) (Sl_rd HSM.out (fun p hp => hOw.get p (List.mem_append_right _ (HRM.out p hp)))) hOw (by omega)).mono ?_); rintro e w6 ⟨rfl, hOz⟩; have hS := dM1 (own := none) hOz.right M3.out M4.out M5.out; dsimp only [hasV, Option.getD_none, Option.getD_some] at hS)
                  | (go_at_call 21; (with_reducible refine (waits_any w.heap.size w b1 none ws Lm X _ HMX.out HOD.out HLM.out).mono ?_); rintro e w5 ⟨vw, Lw, rfl, hSw, hOw⟩; have hS := dM1 (own := none) hOw.right M3.out M4.out M5.out; dsimp only [hasV, Option.getD_none, Option.getD_some] at hS)
                  | fail "no arm")
              all_goals
                have HOZ := Lib.hid hOz.right
                clear hOz hOw hSw hS
                go_wp2
                exact ⟨⟨2, by omega, by go_num, HOZ.out⟩, by simp [intOf]⟩
            | some y =>
              have hx0 := hn y rfl
              clear hn
              dsimp only [hasV, Option.getD_some] at hS
              obtain ⟨k0, k1, k2, k3⟩ := hS
              have hdx : decide (0 ≤ y) = true := by simp [hx0]
              have hmx : (if y < 0 then 0 else y) = y := if_neg (by omega)
              go_wp2_with (go_at_call 19; refine (owner_any b1 (some y) ws Lm _ HMX.out hg.out).mono ?_; rintro e w' ⟨rfl, rfl⟩; unfold ownV; dsimp only [Option.getD_some, Option.isSome_some, Option.getD_none, Option.isSome_none])
              go_region_held3 (fun w' => w'.cell? ⟨bx, 2, none⟩ = some (.pointer (some ⟨b1, 0, none⟩)) ∧ w'.cell? ⟨rx, 2, none⟩ = some (.pointer (some ⟨r1, 0, none⟩)) ∧ w'.cell? ⟨r1, 0, none⟩ = some (.int .i64 y) ∧ w'.cell? ⟨r1, 1, none⟩ = some (.slice am ws.length cm))
                (first
                  | with_reducible exact hS
                  | (go_keep; done)
                  | fail "no keep")
                (first
                  | (go_at_call 20; (with_reducible refine (equal20_same w.heap.size w _ ws _ _ _ (Sl_rd hSw (fun p hp => hOw.get p (List.mem_append_left _ hp))) (Sl_rd HSM.out (fun p hp => hOw.get p (List.mem_append_right _ (HRM.out p hp)))) hOw (by omega)).mono ?_); rintro e w6 ⟨rfl, hOz⟩; have hS := dM1 (own := (some y)) hOz.right M3.out M4.out M5.out; dsimp only [hasV, Option.getD_none, Option.getD_some] at hS)
                  | (go_at_call 21; (with_reducible refine (waits_any w.heap.size w b1 (some y) ws Lm X _ HMX.out HOD.out HLM.out).mono ?_); rintro e w5 ⟨vw, Lw, rfl, hSw, hOw⟩; have hS := dM1 (own := (some y)) hOw.right M3.out M4.out M5.out; dsimp only [hasV, Option.getD_none, Option.getD_some] at hS)
                  | fail "no arm")
              all_goals
                have HOZ := Lib.hid hOz.right
                clear hOz hOw hSw hS
                go_wp2
                exact ⟨⟨2, by omega, by go_num, HOZ.out⟩, by simp [intOf]⟩
          · have HF := Lib.hid (HBK.out _ hO)
            clear hO hKx hKr
            go_wp2
            exact ⟨⟨k + 1, st, _, _, by omega, by go_num, ⟨Lkx, rfl, HKX.out⟩, ⟨Lkr, rfl, HKR.out⟩, HF.out⟩, by simp [intOf]; omega⟩
    · obtain rfl : k = N := by omega
      go_wp2
      go_ret
      exact ⟨rfl, hO.below⟩

end Go.Proofs.Ytidnkienkdlmkaa
