/-
  The walk of shuttlelaw19.RunTurn: it returns true. No condition.
-/
import Derived.Test.YtojcojoleodjmaaRqTurnP
import Derived.Test.YtojcojoleodjmaaIMapB
import Derived.Carry
namespace Go.Proofs.Ytojcojoleodjmaa
open Go.RowKit Go.Sh

abbrev U8 (x : Int) : List Value := [.int .u8 x]
theorem U8_len (x : Int) : (U8 x).length = 1 := rfl
theorem flatU8 (xs : List Int) : xs.flatMap U8 = xs.map (Value.int .u8) := by
  induction xs with
  | nil => rfl
  | cons x xs ih => simp only [List.flatMap_cons, List.map_cons, ih]; rfl

theorem u8_wf {x : Int} (h : (Lit.int .u8 x).wf = true) : 0 ≤ x ∧ x ≤ 255 := by
  have h1 : IntKind.u8.min = 0 := by decide
  have h2 : IntKind.u8.max = 255 := by decide
  simp [Lit.wf, h1, h2] at h
  omega

theorem push_cases {n k : Nat} {ls : Nat → List Int} {x : Int} {all : List Int} (hk : k < n) (hp : (cont n ls).Perm all) (hl : all.length ≤ 40) (h2 : 0 ≤ x) (h3 : x ≤ 255) :
    (x ∉ all ∧ ∃ ls', pushQ n ls (k : Int) x = (0, ls') ∧ (cont n ls').Perm (all ++ [x])) ∨ pushQ n ls (k : Int) x = (1, ls) := by
  by_cases hx : x ∈ cont n ls
  · refine .inr ?_
    have hs : (findQ n ls x).isSome = true := by
      cases h : findQ n ls x with
      | none => exact absurd hx (findQ_mem.1 h)
      | some _ => rfl
    unfold pushQ
    rw [mayQ_ok hk, if_neg (by decide), if_pos (.inl hs)]
  · have := len_queue hk hp
    obtain ⟨h4, h5⟩ := pushQ_ok hk hx h2 (by omega) (by omega)
    exact .inl ⟨fun h => hx (hp.mem_iff.2 h), _, h4, h5.trans ((hp.cons x).trans (List.perm_append_singleton x all).symm)⟩

def T1Rel (B : Nat) (w0 : World) (b n N : Nat) (a i : Value) (wr : World) : Prop :=
  ∃ (k : Nat) (ls : Nat → List Int) (all : List Int) (L La : List (Nat × Obj)), k ≤ N ∧ i = .int .i64 k ∧ Qx b n ls 0 L ∧ Sl 3 1 I a all La ∧ Own B w0 wr (L ++ La) ∧
    (cont n ls).Perm all ∧ all.Nodup ∧ (∀ x ∈ all, 0 ≤ x ∧ x < 65536) ∧ all.length ≤ k

def T2Rel (B : Nat) (w0 : World) (b bm n : Nat) (all : List Int) (La : List (Nat × Obj)) (i : Value) (wr : World) : Prop :=
  ∃ (p : Nat) (ls : Nat → List Int) (st : Int) (ks : List Int) (L : List (Nat × Obj)) (o : Obj), p ≤ n ∧ i = .int .i64 p ∧ Qx b n ls st L ∧ MapIs (setK ks) o ∧ Own B w0 wr (L ++ ((bm, o) :: La)) ∧ TI n p 0 ls all ks

def T3Rel (B : Nat) (w0 : World) (b bm n p : Nat) (all : List Int) (La : List (Nat × Obj)) (i : Value) (wr : World) : Prop :=
  ∃ (r : Nat) (ls : Nat → List Int) (st : Int) (ks : List Int) (L : List (Nat × Obj)) (o : Obj), r ≤ all.length ∧ i = .int .i64 r ∧ Qx b n ls st L ∧ MapIs (setK ks) o ∧ Own B w0 wr (L ++ ((bm, o) :: La)) ∧ TI n p r ls all ks

set_option maxRecDepth 100000 in
set_option maxHeartbeats 4000000 in
theorem turn3 (a : Int) (xs : List Int) (ao : Option Addr) (cap : Nat) (w : World) (ha : (Lit.int .u8 a).wf = true) (hR : Rd w U8 (.slice ao xs.length cap) xs) (hok : ∀ x ∈ xs, (Lit.int .u8 x).wf = true) (hx : xs.length ≤ 9223372036854775807) (hcap : xs.length ≤ cap) :
    Calls Try.prog 3 #[.int .u8 a, .slice ao xs.length cap] w fun e w' => e = .returned (.bool true) ∧ Below w.heap.size w w' := by
  have R1 := Lib.hid (show ∀ j (hj : j < xs.length), ∃ g off, ao = some ⟨g, off, none⟩ ∧ w.cell? ⟨g, off + j, none⟩ = some (.int .u8 xs[j]) by
    intro j hj
    rcases hR with ⟨rfl, _⟩ | ⟨g, off, cap', hv, hc⟩
    · simp at hj
    · simp only [Value.slice.injEq, true_and] at hv
      exact ⟨g, off, hv.1, hc j _ (by rw [flatU8]; simp [List.getElem?_eq_getElem hj])⟩)
  have HOK := Lib.hid (show ∀ j (hj : j < xs.length), 0 ≤ xs[j] ∧ xs[j] ≤ 255 from fun j hj => u8_wf (hok _ (List.getElem_mem hj)))
  obtain ⟨ha0, ha1⟩ := u8_wf ha
  obtain ⟨N, hN1, hN2, hmin⟩ : ∃ N : Nat, N ≤ xs.length ∧ N ≤ 40 ∧ (if (40 : Int) < (xs.length : Int) then 40 else (xs.length : Int)) = (N : Int) := ⟨min xs.length 40, by omega, by omega, by split <;> omega⟩
  obtain ⟨n, hn⟩ : ∃ n : Nat, n = 1 + (a % 6).toNat := ⟨_, rfl⟩
  have hn1 : 1 ≤ n := by omega
  have hn6 : n ≤ 6 := by omega
  have hmod : 1 + a % 6 = (n : Int) := by omega
  clear hR hok ha hn
  obtain ⟨i0, hi, hz0, hz1, hz2⟩ := info_parts Try.info3
  have hO0 := (Own.start w).alloc (qobj n (fun _ => .slice none 0 0) 0)
  have HMIN := Lib.hid hmin
  go_enter Try.func3, Try.ntmps3
  go_wp2_with (go_at_call 13; refine (new_q n _ rfl _ hn1 (by omega)).mono ?_; rintro e w' ⟨rfl, rfl⟩)
  refine (awake14 _ w _ _ hO0).mono ?_
  rintro e w1 ⟨rfl, hO1⟩
  go_wp2
  clear hmin
  clear hO0
  have HX1 := Lib.hid (Qx.new (b := w.heap.size) hn1 (show n ≤ 16 by omega))
  go_loopw [8, 40] (fun a i wr => T1Rel w.heap.size w w.heap.size n N a i wr) (fun _ i _ => N - (intOf i).toNat)
  case atStart => exact ⟨0, _, [], _, [], Nat.zero_le _, rfl, HX1.out, Sl.nil, by simpa using hO1, by rw [show cont n (fun _ => []) = [] by simp [cont]], by simp, by simp, by simp⟩
  case round =>
    obtain ⟨k, ls, all, L, La, hk, rfl, hX, hS, hO, hP, hnd, hrg, hfew⟩ := hrel
    obtain ⟨aa, ca, rfl, hca, _⟩ := hS.form
    clear hO1 HX1
    by_cases hlt : k < N
    · obtain ⟨g, off, rfl, e1⟩ := R1.out k (by omega)
      have hb1 := World.block_lt_of_cell? _ _ e1
      have c1 := (hO.below.cell (p := ⟨g, off + k, none⟩) hb1).trans e1
      have hkx : k < xs.length := by omega
      obtain ⟨hx0, hx1⟩ := HOK.out k hkx
      clear e1
      obtain ⟨x, hop⟩ : ∃ x, xs[k] = x := ⟨_, rfl⟩
      rw [hop] at c1 hx0 hx1
      clear hop
      obtain ⟨j, hj⟩ : ∃ j, j = k % n := ⟨_, rfl⟩
      have hjn : j < n := by rw [hj]; exact Nat.mod_lt _ (by omega)
      have hkn : (k : Int) % (n : Int) = (j : Int) := by rw [hj]; push_cast; rfl
      clear hj
      have HRG := Lib.hid hrg
      have HND := Lib.hid hnd
      have HP := Lib.hid hP
      have hcs := push_cases hjn hP (by omega) hx0 hx1
      clear hrg hnd hP
      rcases hcs with ⟨hxn, ls', hr, hp'⟩ | hr
      · have HR := Lib.hid hr
        have HP' := Lib.hid hp'
        have HXN := Lib.hid hxn
        clear hr hp' hxn
        go_wp2_with fail
        refine (push_q w.heap.size w w.heap.size n ls 0 L La j x _ hX hO).mono ?_
        rw [HR.out]
        rintro e w2 ⟨rfl, L2, hX2, hO2⟩
        dsimp only at hX2 ⊢
        go_wp2_with (at_builtin; refine wpList_append_sl rfl (.tmp 53) (.tmp 56) 28 rfl _ _ _ Try.underlying28 hi hz0 hz1 hz2 rfl I_len I_one rfl hS (F := L2) (by exact (hO2.shuf [L2, La] [1, 0] rfl rfl).junk _) ⟨w2.heap.size, 0, none⟩ [x] 1 1 rfl rfl (news_one (x := .int .i64 x) (by simp [World.cell?_alloc_at])) (by decide) (by unfold maxLen; omega) (by omega) ?_)
        intro g' off' cap' w3 L3 hS3 hO3 _ _
        clear hO2 hS hO hX
        go_wp2
        exact ⟨⟨k + 1, ls', all ++ [x], L2, L3, by omega, by go_num, hX2, by simpa using hS3, hO3.comm, HP'.out, by rw [List.nodup_append]; exact ⟨HND.out, by simp, by intro a ha b hb; simp at hb; subst hb; intro e; subst e; exact HXN.out ha⟩, fun y hy => by
          rcases List.mem_append.1 hy with h | h
          · exact HRG.out y h
          · simp at h; subst h; omega, by simp; omega⟩, by simp [intOf]; omega⟩
      · have HR := Lib.hid hr
        clear hr
        go_wp2_with fail
        refine (push_q w.heap.size w w.heap.size n ls 0 L La j x _ hX hO).mono ?_
        rw [HR.out]
        rintro e w2 ⟨rfl, L2, hX2, hO2⟩
        dsimp only at hX2 ⊢
        clear hO hX
        go_wp2
        exact ⟨⟨k + 1, ls, all, L2, La, by omega, by go_num, hX2, hS, hO2, HP.out, HND.out, HRG.out, by omega⟩, by simp [intOf]; omega⟩
    · obtain rfl : k = N := by omega
      have hmk : ∀ w, (Instr.makeMap 30 none).run Try.prog w = .ok (.map (some w.heap.size)) (w.alloc (.map #[] 0)) := fun w => run_makeMap 30 w
      have hTI := Lib.hid (turn_start hP hnd hrg (by omega))
      have hO2 := (hO.alloc (.map #[] 0)).shuf [[_], L, La] [1, 0, 2] rfl rfl
      generalize hbm : wr.heap.size = bm at hO2
      have HBM := Lib.hid hbm
      clear hP hnd hrg hO
      go_wp2
      clear hmk hbm HBM
      go_loopw [61] (fun i wr => T2Rel w.heap.size w w.heap.size bm n all La i wr) (fun i _ => n - (intOf i).toNat)
      case atStart => exact ⟨0, ls, 0, [], L, _, Nat.zero_le _, rfl, hX, MapIs.new, by simpa [cat] using hO2, hTI.out⟩
      case round =>
        obtain ⟨p, ls, st, ks, L, o, hp, rfl, hX, hMap, hO, hT⟩ := hrel
        by_cases hlt : p < n
        · have HT := Lib.hid hT
          clear hT hO2
          go_wp2
          go_loopw [66] (fun i wr => T3Rel w.heap.size w w.heap.size bm n p all La i wr) (fun i _ => all.length - (intOf i).toNat)
          case atStart => exact ⟨0, ls, st, ks, L, o, Nat.zero_le _, rfl, hX, hMap, hO, HT.out⟩
          case round =>
            clear hX hMap hO HT
            obtain ⟨r, ls, st, ks, L, o, hr, rfl, hX, hMap, hO, hT⟩ := hrel
            by_cases hlt3 : r < all.length
            · obtain ⟨x, ls1, st1, ls2, h1, h2, h3⟩ := turn_round st hT hlt hlt3
              have H1 := Lib.hid h1
              have H2 := Lib.hid h2
              have H3 := Lib.hid h3
              clear h1 h2 h3 hT
              go_wp2_with fail
              refine (next_q w.heap.size w w.heap.size n ls st L _ p _ hX hO).mono ?_
              rw [H1.out]
              rintro e w2 ⟨rfl, L2, hX2, hO3⟩
              dsimp only at hX2 ⊢
              go_wp2_with fail
              refine (push_q w.heap.size w w.heap.size n ls1 st1 L2 _ p x _ hX2 hO3).mono ?_
              rw [H2.out]
              rintro e w3 ⟨rfl, L3, hX3, hO4⟩
              dsimp only at hX3 ⊢
              have hO5 := hO4.shuf [L3, [_], La] [1, 0, 2] rfl rfl
              obtain ⟨o', hrun, hm'⟩ := run_mapUpdate_kvs (P := Try.prog) (w := w3) (b := bm) Try.underlying30 Try.underlying3 hO5.head hMap x (.bool true)
              have hO6 := Own.setObj hO5 o'
              rw [kput_set] at hm'
              have HM := Lib.hid hm'
              clear hm' hO3 hO4 hO5 hX hX2 hO hMap
              generalize hw4 : ({ w3 with heap := w3.heap.setIfInBounds bm o' } : World) = w4 at hrun hO6
              clear hw4
              go_wp2
              exact ⟨⟨r + 1, ls2, st1, _, L3, o', by omega, by go_num, hX3, HM.out, by simpa [cat] using hO6.shuf [[_], L3, La] [1, 0, 2] rfl rfl, H3.out⟩, by simp [intOf]; omega⟩
            · obtain rfl : r = all.length := by omega
              have HT := Lib.hid (turn_next hlt hT)
              clear hT
              go_wp2
              exact ⟨⟨p + 1, ls, st, ks, L, o, by omega, by go_num, hX, hMap, hO, HT.out⟩, by simp [intOf]; omega⟩
        · obtain rfl : p = n := by omega
          have hlen := run_len_kvs (P := Try.prog) (w := wr) (b := bm) Try.underlying30 (hO.get (bm, o) (by simp)) hMap
          have hk := Lib.hid (turn_end hT)
          have HB := Lib.hid hO.below
          rw [setK_len, hk.out] at hlen
          clear hT hX hMap hO hO2
          go_wp2
          go_ret
          exact ⟨rfl, HB.out⟩

end Go.Proofs.Ytojcojoleodjmaa
