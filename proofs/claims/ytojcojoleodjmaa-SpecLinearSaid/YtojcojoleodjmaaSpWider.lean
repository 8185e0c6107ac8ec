/-
  SpecWider's walk: it returns true at every input. No condition.
-/
import Derived.Test.YtojcojoleodjmaaSpW
import Derived.Test.YtojcojoleodjmaaSpHolds
namespace Go.Proofs.Ytojcojoleodjmaa
open Go.RowKit Go.Shelf Go.Sh
attribute [local go_sem ↓] Go.wp_at_zero Go.wp_at_succ

theorem rda_own {B : Nat} {w0 : World} {g off n cap : Nat} {cur : Array Value} {ys : List C6} {F : List (Nat × Obj)} (h : Sl 80 6 CC (.slice (some ⟨g, off, none⟩) n cap) ys [(g, .cells cur 80 (0, 0))]) :
    RdA B w0 ((g, Obj.cells cur 80 (0, 0)) :: F) (.slice (some ⟨g, off, none⟩) n cap) ys := fun w' hw => sl_rd6 h (fun p hp => by simp at hp; subst hp; exact hw.head)
theorem sl_le {α : Type} {e : TypeId} {k : Nat} {enc : α → List Value} {ao : Option Addr} {n cap : Nat} {xs : List α} {L : List (Nat × Obj)} (h : Sl e k enc (.slice ao n cap) xs L) : n ≤ cap := by
  obtain ⟨_, _, he, h1, _⟩ := h.form
  simp only [Value.slice.injEq] at he
  omega
theorem cap_of {ao : Option Addr} {n cap : Nat} (h : n ≤ cap) : ∀ a m c, Value.slice ao n cap = .slice a m c → m ≤ c := by
  intro a m c h'
  simp only [Value.slice.injEq] at h'
  obtain ⟨_, rfl, rfl⟩ := h'
  exact h

theorem rd_at6 {w : World} {g off n cap k : Nat} {xs : List C6} {x : C6} (h : Rd w CC (.slice (some ⟨g, off, none⟩) n cap) xs) (hx : xs[k]? = some x) : g < w.heap.size ∧ At6 w g (off + k * 6) x := by
  obtain ⟨hk, he⟩ := List.getElem?_eq_some_iff.1 hx
  obtain ⟨ao, cap', hv, hr⟩ := rd_cc h
  obtain ⟨g', off', rfl, h1, h2⟩ := hr k hk
  simp only [Value.slice.injEq, Option.some.injEq, Addr.mk.injEq, and_true] at hv
  obtain ⟨⟨rfl, rfl⟩, _, _⟩ := hv
  rw [he] at h2
  exact ⟨h1, h2⟩

set_option maxRecDepth 100000 in
set_option maxHeartbeats 4000000 in
theorem wider11 (kind : Int) (xs : List C6) (ao : Option Addr) (cp : Nat) (i b : Int) (later : Bool) (W : World) (hi : 0 ≤ i ∧ i < 256) (hb : 0 ≤ b ∧ b < 256) (hR : Rd W CC (.slice ao xs.length cp) xs) (hm : xs.length ≤ maxLen) (hcap : xs.length ≤ cp) :
    Calls Try.prog 11 #[.int .i64 kind, .slice ao xs.length cp, .int .u8 i, .int .u8 b, .bool later] W (AllTrue W) := by
  unfold maxLen at hm
  have HAW := Lib.hid (fun w (hO : Sh.Own W.heap.size W w []) => awake30 W.heap.size W [] w hO)
  have HO := Lib.hid (Sh.Own.start W)
  obtain ⟨n, hn⟩ : ∃ n, xs.length = n := ⟨_, rfl⟩
  by_cases h0 : n = 0
  · subst h0
    rw [hn]
    clear hR hcap hn hm
    go_enter Try.func11, Try.ntmps11
    go_wp2_with (first
      | (go_at_call 30; (with_reducible refine (HAW.out _ HO.out).mono ?_); rintro e w1 ⟨rfl, hO1⟩)
      | (go_at_call 30; (with_reducible refine (HAW.out _ hO1).mono ?_); rintro e w2 ⟨rfl, hO2⟩))
    go_ret
    exact ⟨rfl, hO2.below⟩
  · have b0 : ((n : Int) == 0) = false := by simp [h0]
    by_cases h1 : 8 < n
    · have b1 : decide ((8 : Int) < n) = true := by simp; omega
      have b2 : decide (8 < n) = true := by simp; omega
      rw [hn]
      clear hR hcap h1 h0 hn hm
      go_enter Try.func11, Try.ntmps11
      go_wp2_with (first
        | (go_at_call 30; (with_reducible refine (HAW.out _ HO.out).mono ?_); rintro e w1 ⟨rfl, hO1⟩)
        | (go_at_call 30; (with_reducible refine (HAW.out _ hO1).mono ?_); rintro e w2 ⟨rfl, hO2⟩))
      go_ret
      exact ⟨rfl, hO2.below⟩
    · have b1 : decide ((8 : Int) < n) = false := by simp; omega
      have b2 : decide (8 < n) = false := by simp; omega
      have HL := Lib.hid (fun w (hO : Sh.Own W.heap.size W w []) => linear32 W.heap.size W [] kind ao xs.length cp xs w (rda_any hR) hO hcap (by omega))
      have HCL := Lib.hid (fun w F (hO : Sh.Own W.heap.size W w F) => clone43 W.heap.size W F xs _ w (rda_any hR w hO) hO (by omega) (by omega))
      obtain ⟨hlen, hlaw⟩ := lin_law kind xs (by omega)
      obtain ⟨r, hr⟩ : ∃ r, linR kind xs = r := ⟨_, rfl⟩
      rw [hr] at HL hlen hlaw
      rw [hn] at HL ⊢
      unfold NewCC at HCL
      rw [hn] at HCL
      obtain ⟨a, ok, er⟩ := r
      rcases hlaw with ⟨rfl, rfl, _⟩ | ⟨rfl, rfl, hk, hc, hg, _, _⟩
      · simp only at hlen HL
        clear hr hR hcap h1 h0 hn hm HCL
        by_cases h2 : er = 0
        · subst h2
          go_enter Try.func11, Try.ntmps11
          go_wp2_with (first
            | (go_at_call 30; (with_reducible refine (HAW.out _ HO.out).mono ?_); rintro e w1 ⟨rfl, hO1⟩)
            | (go_at_call 32; (with_reducible refine (HL.out _ hO1).mono ?_); rintro e w2 ⟨v, L', rfl, hS, hO2⟩; obtain ⟨av, cv, rfl, _, _⟩ := hS.form))
          go_ret
          exact ⟨rfl, hO2.below⟩
        · have hb2 : (er != 0) = true := by simp [h2]
          clear h2
          go_enter Try.func11, Try.ntmps11
          go_wp2_with (first
            | (go_at_call 30; (with_reducible refine (HAW.out _ HO.out).mono ?_); rintro e w1 ⟨rfl, hO1⟩)
            | (go_at_call 32; (with_reducible refine (HL.out _ hO1).mono ?_); rintro e w2 ⟨v, L', rfl, hS, hO2⟩; obtain ⟨av, cv, rfl, _, _⟩ := hS.form))
          go_ret
          exact ⟨rfl, hO2.below⟩
      · simp only at hlen hg HL
        obtain ⟨k, hk1, hkn⟩ : ∃ k : Nat, i % (n : Int) = (k : Int) ∧ k < n := ⟨(i % (n : Int)).toNat, by have := Int.emod_nonneg i (show (n : Int) ≠ 0 by omega); omega, by have := Int.emod_nonneg i (show (n : Int) ≠ 0 by omega); have := Int.emod_lt_of_pos i (show (0 : Int) < n by omega); omega⟩
        obtain ⟨x, hx⟩ : ∃ x, xs[k]? = some x := ⟨xs[k]'(by omega), List.getElem?_eq_getElem _⟩
        obtain ⟨hf, ht⟩ := bad_no (show badB x = false by have := chk_bad hc k (by omega); rwa [show xs.getD k default = x by simp [hx]] at this)
        have ik : (k : Int) < n := by omega
        have ik0 : (0 : Int) ≤ k := by omega
        have in0 : (0 : Int) < n := by omega
        have i1 := hi.1
        have i2 := hi.2
        have j1 := hb.1
        have j2 := hb.2
        have HX := Lib.hid hx
        have HN := Lib.hid hn
        have HG := Lib.hid hg
        have HKN := Lib.hid hk
        have HLEN := Lib.hid hlen
        have HT := Lib.hid ht
        have h8 : n ≤ 8 := by omega
        clear hr hR hcap h1 h0 hn hm hc hg hk hx hlen ht hi hb
        go_enter Try.func11, Try.ntmps11
        go_wp2_with (first
          | (go_at_call 30; (with_reducible refine (HAW.out _ HO.out).mono ?_); rintro e w1 ⟨rfl, hO1⟩)
          | (go_at_call 32; (with_reducible refine (HL.out _ hO1).mono ?_); rintro e w2 ⟨v, L', rfl, hS, hO2⟩; obtain ⟨av, cv, rfl, _, _⟩ := hS.form; have HS := Lib.hid hS; clear hS))
        refine (HCL.out _ _ hO2).mono ?_
        rintro e w3 ⟨g, off, cap, L1, rfl, hS1, hO3⟩
        obtain ⟨gl, d0, d1, d2, d3, d4, d5⟩ := rd_at6 (sl_rd6 hS1 (fun p hp => hO3.get p (by simp [hp]))) HX.out
        by_cases hA : 1099511627776 < x.fro
        · have bA : decide ((1099511627776 : Int) < x.fro) = true := by simpa using hA
          clear hS1 hA
          go_wp2
          go_ret
          exact ⟨rfl, hO3.below⟩
        · have bA : decide ((1099511627776 : Int) < x.fro) = false := by simpa using hA
          by_cases hB : 1099511627776 < x.til
          · have bB : decide ((1099511627776 : Int) < x.til) = true := by simpa using hB
            clear hS1 hA hB
            go_wp2
            go_ret
            exact ⟨rfl, hO3.below⟩
          · have bB : decide ((1099511627776 : Int) < x.til) = false := by simpa using hB
            have hA2 : x.fro ≤ 1099511627776 := by omega
            have hB2 : x.til ≤ 1099511627776 := by omega
            clear hA hB
            cases later with
            | false =>
              obtain ⟨cur, rfl, hS2⟩ := sl_set CC_len hS1 HX.out (y := ⟨x.who, x.op, x.v, x.fro - b, x.til⟩) (j := 4) (u := .int .i64 (x.fro - b)) (by omega) rfl
              have hO4 := (show Sh.Own W.heap.size W w3 ((g, Obj.cells cur 80 (0, 0)) :: (L' ++ [])) from hO3).set (off + k * 6 + 4) (.int .i64 (x.fro - b))
              have gf := free_of_get hO3.head
              have hw : Wider xs (xs.set k (⟨x.who, x.op, x.v, x.fro - b, x.til⟩ : C6)) := wide_set HX.out rfl rfl Iff.rfl (Int.le_refl _) (by simp; omega)
              have hys : (xs.set k (⟨x.who, x.op, x.v, x.fro - b, x.til⟩ : C6)).length = n := by rw [List.length_set]; exact HN.out
              obtain ⟨ys, hye⟩ : ∃ ys, xs.set k (⟨x.who, x.op, x.v, x.fro - b, x.til⟩ : C6) = ys := ⟨_, rfl⟩
              rw [hye] at hS2 hw hys
              have HC := Lib.hid (check38 W.heap.size W _ ys _ _ (rda_own hS2 _ hO4) hO4 (by omega) (cap_of (sl_le hS2)))
              have HH := Lib.hid (fun w hO => holds40 W.heap.size W _ kind _ n cap ys a _ w (rda_own hS2) (fun w' hw' => sl_any HS.out w' (show Sh.Own W.heap.size W w' (L' ++ []) from hw'.tail)) hO (sl_le hS2) (by omega) (by have := HLEN.out; omega))
              have HW := Lib.hid hw
              clear hS1 hS2 hO3 hO4 hw hys hye d0 d1 d2 d3
              obtain ⟨c, hc⟩ : ∃ c, checkR ys = c := ⟨_, rfl⟩
              rw [hc] at HC
              by_cases hz : c = 0
              · subst hz
                rw [holds_wider HW.out HKN.out hc HG.out] at HH
                clear hc
                go_wp2_with (first
                  | (go_at_call 38; (with_reducible refine HC.out.mono ?_); rintro e w5 ⟨rfl, hO5, _⟩)
                  | (go_at_call 40; (with_reducible refine (HH.out _ hO5).mono ?_); rintro e w6 ⟨rfl, hO6⟩))
                go_ret
                exact ⟨rfl, hO6.below⟩
              · have bz : (c != 0) = true := by simp [hz]
                clear hc hz
                go_wp2_with (go_at_call 38; (with_reducible refine HC.out.mono ?_); rintro e w5 ⟨rfl, hO5, _⟩)
                go_ret
                exact ⟨rfl, hO5.below⟩
            | true =>
              by_cases h0 : x.til = 0
              · have b3 : (x.til != 0) = false := by simp [h0]
                have hS2 := hS1
                have HC := Lib.hid (check38 W.heap.size W _ xs _ _ (sl_rd6 hS1 (fun p hp => hO3.get p (by simp [hp]))) hO3 (by have := HN.out; omega) (cap_of (sl_le hS1)))
                have HH := Lib.hid (fun w hO => holds40 W.heap.size W _ kind _ n cap xs a _ w (fun w' (hw' : Sh.Own W.heap.size W w' (L1 ++ (L' ++ []))) => sl_rd6 hS1 (fun p hp => hw'.get p (by simp [hp]))) (fun w' hw' => sl_any HS.out w' (show Sh.Own W.heap.size W w' (L' ++ []) from hw'.right)) hO (sl_le hS1) (by have := HN.out; omega) (by have := HLEN.out; omega))
                clear hS1 hS2 hO3 d0 d1 d2 d3 h0
                obtain ⟨c, hc⟩ : ∃ c, checkR xs = c := ⟨_, rfl⟩
                rw [hc] at HC
                have hwr : Wider xs xs := ⟨rfl, fun i => ⟨rfl, rfl, Iff.rfl, fun j h => h⟩⟩
                by_cases hz : c = 0
                · subst hz
                  rw [holds_wider hwr HKN.out hc HG.out] at HH
                  clear hc hwr
                  go_wp2_with (first
                    | (go_at_call 38; (with_reducible refine HC.out.mono ?_); rintro e w5 ⟨rfl, hO5, _⟩)
                    | (go_at_call 40; (with_reducible refine (HH.out _ hO5).mono ?_); rintro e w6 ⟨rfl, hO6⟩))
                  go_ret
                  exact ⟨rfl, hO6.below⟩
                · have bz : (c != 0) = true := by simp [hz]
                  clear hc hz hwr
                  go_wp2_with (go_at_call 38; (with_reducible refine HC.out.mono ?_); rintro e w5 ⟨rfl, hO5, _⟩)
                  go_ret
                  exact ⟨rfl, hO5.below⟩
              · have b3 : (x.til != 0) = true := by simp [h0]
                have hlt : 0 < x.til := by rcases HT.out with h | h <;> omega
                obtain ⟨cur, rfl, hS2⟩ := sl_set CC_len hS1 HX.out (y := ⟨x.who, x.op, x.v, x.fro, x.til + b⟩) (j := 5) (u := .int .i64 (x.til + b)) (by omega) rfl
                have hO4 := (show Sh.Own W.heap.size W w3 ((g, Obj.cells cur 80 (0, 0)) :: (L' ++ [])) from hO3).set (off + k * 6 + 5) (.int .i64 (x.til + b))
                have gf := free_of_get hO3.head
                have hw : Wider xs (xs.set k (⟨x.who, x.op, x.v, x.fro, x.til + b⟩ : C6)) := wide_set HX.out rfl rfl (by simp; omega) (by simp; omega) (Int.le_refl _)
                have hys : (xs.set k (⟨x.who, x.op, x.v, x.fro, x.til + b⟩ : C6)).length = n := by rw [List.length_set]; exact HN.out
                obtain ⟨ys, hye⟩ : ∃ ys, xs.set k (⟨x.who, x.op, x.v, x.fro, x.til + b⟩ : C6) = ys := ⟨_, rfl⟩
                rw [hye] at hS2 hw hys
                have HC := Lib.hid (check38 W.heap.size W _ ys _ _ (rda_own hS2 _ hO4) hO4 (by omega) (cap_of (sl_le hS2)))
                have HH := Lib.hid (fun w hO => holds40 W.heap.size W _ kind _ n cap ys a _ w (rda_own hS2) (fun w' hw' => sl_any HS.out w' (show Sh.Own W.heap.size W w' (L' ++ []) from hw'.tail)) hO (sl_le hS2) (by omega) (by have := HLEN.out; omega))
                have HW := Lib.hid hw
                clear hS1 hS2 hO3 hO4 hw hys hye d0 d1 d2 d3
                obtain ⟨c, hc⟩ : ∃ c, checkR ys = c := ⟨_, rfl⟩
                rw [hc] at HC
                by_cases hz : c = 0
                · subst hz
                  rw [holds_wider HW.out HKN.out hc HG.out] at HH
                  clear hc
                  go_wp2_with (first
                    | (go_at_call 38; (with_reducible refine HC.out.mono ?_); rintro e w5 ⟨rfl, hO5, _⟩)
                    | (go_at_call 40; (with_reducible refine (HH.out _ hO5).mono ?_); rintro e w6 ⟨rfl, hO6⟩))
                  go_ret
                  exact ⟨rfl, hO6.below⟩
                · have bz : (c != 0) = true := by simp [hz]
                  clear hc hz
                  go_wp2_with (go_at_call 38; (with_reducible refine HC.out.mono ?_); rintro e w5 ⟨rfl, hO5, _⟩)
                  go_ret
                  exact ⟨rfl, hO5.below⟩

theorem u8_bounds {a : Int} (h : (Lit.int .u8 a).wf = true) : 0 ≤ a ∧ a < 256 := by
  have h' : (decide ((0 : Int) ≤ a) && decide (a ≤ 255)) = true := h
  simp at h'
  omega

theorem wider11W (kind : Int) (xs : List C6) (ao : Option Addr) (cp : Nat) (i b : Int) (later : Bool) (W : World) (_ : (Lit.int .i64 kind).wf = true) (hR : Rd W CC (.slice ao xs.length cp) xs) (_ : ∀ x ∈ xs, True) (hm : xs.length ≤ maxLen) (hcap : xs.length ≤ cp)
    (hi : (Lit.int .u8 i).wf = true) (hb : (Lit.int .u8 b).wf = true) :
    Calls Try.prog 11 #[.int .i64 kind, .slice ao xs.length cp, .int .u8 i, .int .u8 b, .bool later] W (fun e w' => e = .returned (.bool true) ∧ Below W.heap.size W w') :=
  wider11 kind xs ao cp i b later W (u8_bounds hi) (u8_bounds hb) hR hm hcap

end Go.Proofs.Ytojcojoleodjmaa
