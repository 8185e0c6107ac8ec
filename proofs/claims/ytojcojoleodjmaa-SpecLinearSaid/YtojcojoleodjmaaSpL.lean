/-
  spec: contract of Holds. Condition: few calls.
-/
import Derived.Test.YtojcojoleodjmaaSpK
import Derived.StillTailTactics
namespace Go.Proofs.Ytojcojoleodjmaa
open Go.RowKit Go.Shelf Go.Sh
attribute [local go_sem ↓] Go.wp_at_zero Go.wp_at_succ

def goR (kind : Int) (xs : List C6) : List Int → List Int → Int → List V2 → Bool
  | [], _, op, _ => op == 0
  | n :: ks, o, op, l => if n < 0 ∨ (xs.length : Int) ≤ n then false else match nextO kind xs o l n.toNat with
    | none => false
    | some l' => goR kind xs ks (o ++ [n]) (op - openN (xs.getD n.toNat default)) l'
def holdsR (kind : Int) (xs : List C6) (ks : List Int) : Bool := knownB kind && (checkR xs == 0 && goR kind xs ks [] (opens xs) (begunT kind))

theorem hold_a {B : Nat} {w0 w : World} {t s j : Nat × Obj} {Lv Lo F : List (Nat × Obj)} (h : Sh.Own B w0 w (t :: (Lv ++ (s :: j :: (Lo ++ F))))) : Sh.Own B w0 w (s :: j :: (Lo ++ (t :: (Lv ++ F)))) :=
  h.shuf [[t], Lv, [s, j], Lo, F] [2, 3, 0, 1, 4] rfl rfl

theorem hold_b {B : Nat} {w0 w : World} {s j : Nat × Obj} {t : Nat} {a0 a1 : Value} {L' Lo G F : List (Nat × Obj)} (h : Sh.Own B w0 w (L' ++ (s :: j :: (Lo ++ ((t, Obj.cells #[a0, a1] 102 (0, 0)) :: (G ++ F)))))) (k v : Value) :
    Sh.Own B w0 ((w.setCell ⟨t, 0, none⟩ k).setCell ⟨t, 1, none⟩ v) (s :: j :: (Lo ++ ((t, Obj.cells #[k, v] 102 (0, 0)) :: ((L' ++ G) ++ F)))) := by
  have h1 : Sh.Own B w0 w ((t, Obj.cells #[a0, a1] 102 (0, 0)) :: (L' ++ (s :: j :: (Lo ++ (G ++ F))))) := h.shuf [L', [s, j], Lo, [_], G, F] [3, 0, 1, 2, 4, 5] rfl rfl
  have h3 := (outT h1 k v).shuf [[_], L', [s, j], Lo, G, F] [2, 3, 0, 1, 4, 5] rfl rfl
  have e : (L' ++ G) ++ F = L' ++ (G ++ F) := List.append_assoc _ _ _
  rw [e]
  exact h3

set_option maxRecDepth 100000 in
set_option maxHeartbeats 4000000 in
theorem holds40 (B : Nat) (w0 : World) (F : List (Nat × Obj)) (kind : Int) (ao : Option Addr) (nn cap : Nat) (xs : List C6) (ks : List Int) (vk : Value) (w : World) (hR : RdA B w0 F (.slice ao nn cap) xs) (hK : ∀ w', Sh.Own B w0 w' F → Rd w' I vk ks) (hO : Sh.Own B w0 w F) (hnc : nn ≤ cap) (hx : xs.length ≤ 900) (hks : ks.length ≤ 1000) :
    Calls Try.prog 40 #[.int .i64 kind, .slice ao nn cap, vk] w (BoolD B w0 F (holdsR kind xs ks)) := by
  have hcap : ∀ a n c, Value.slice ao nn cap = .slice a n c → n ≤ c := by
    intro a n c h
    simp only [Value.slice.injEq] at h
    obtain ⟨_, rfl, rfl⟩ := h
    exact hnc
  obtain ⟨ao2, cap2, rfl⟩ : ∃ a c, vk = .slice a ks.length c := by
    rcases hK w hO with ⟨rfl, a, c, rfl⟩ | ⟨g, off, c, rfl, _⟩ <;> exact ⟨_, _, rfl⟩
  have HC := Lib.hid (check38 B w0 F xs (.slice ao nn cap) w (hR w hO) hO (by omega) hcap)
  have HKN := Lib.hid (known67 kind w)
  have HO := Lib.hid hO
  obtain ⟨c, hc⟩ : ∃ c, checkR xs = c := ⟨_, rfl⟩
  rw [hc] at HC
  cases hk : knownB kind with
  | false =>
    have HH := Lib.hid (show holdsR kind xs ks = false by unfold holdsR; rw [hk]; rfl)
    rw [hk] at HKN
    clear hR hK hO hk hc hcap
    go_enter Try.func40, Try.ntmps40
    go_wp2_with (go_at_call 67; refine HKN.out.mono ?_; rintro e w' ⟨rfl, rfl⟩)
    go_ret
    exact ⟨by rw [HH.out]; rfl, HO.out⟩
  | true =>
    rw [hk] at HKN
    by_cases h0 : c = 0
    · subst h0
      have HH := Lib.hid (show holdsR kind xs ks = goR kind xs ks [] (opens xs) (begunT kind) by unfold holdsR; rw [hk, hc]; rfl)
      have HR := Lib.hid hR
      have HK := Lib.hid hK
      have HCAP := Lib.hid hcap
      obtain ⟨_, _, hlv, _⟩ := rd_cc (hR w hO)
      simp only [Value.slice.injEq] at hlv
      obtain ⟨rfl, hnx, rfl⟩ := hlv
      have HNX := Lib.hid hnx.symm
      have hnn : nn ≤ 900 := by omega
      clear hR hK hO hk hc hcap hnx hx
      go_enter Try.func40, Try.ntmps40
      go_wp2_with (first
        | (go_at_call 67; refine HKN.out.mono ?_; rintro e w' ⟨rfl, rfl⟩)
        | (go_at_call 38; refine HC.out.mono ?_; rintro e w1 ⟨rfl, hO1, _⟩)
        | (go_at_call 60; refine (looks60 B w0 F xs _ nn _ HR.out hO1 HNX.out.symm (by omega) HCAP.out).mono ?_; rintro e w2 ⟨S, J, rfl, hX⟩; obtain ⟨vo, Lo, hSo, hO2⟩ := hX; clear hO1)
        | (go_at_call 62; refine (begun62 B w0 _ kind _ hO2).mono ?_; rintro e w3 ⟨v, Lv, rfl, hS, hO3⟩; obtain ⟨a3, c3, rfl, _, _⟩ := hS.form; clear hO2))
      go_loopw [10, 11, 26] (fun _ _ i wr => ∃ (k : Nat) (l : List V2) (v : Value) (Lt G : List (Nat × Obj)) (op : Int), k ≤ ks.length ∧ i = .int .i64 k ∧ Hid (goR kind xs (ks.drop k) (ks.take k) op l = goR kind xs ks [] (opens xs) (begunT kind)) ∧ Hid (Sl 77 2 C2 v l Lt) ∧ Hid (∀ p ∈ Lt, p ∈ G ++ F) ∧ Hid (Sx B w0 ((w3.heap.size, obT kind v) :: (G ++ F)) (.slice ao nn cap) nn (ks.take k) op S J wr) ∧ Hid ((∀ j ∈ ks.take k, 0 ≤ j ∧ j < xs.length) ∧ (ks.take k).Nodup ∧ -(k : Int) ≤ op ∧ op ≤ 1000 ∧ l.length ≤ k + 1)) (fun _ _ i _ => ks.length - (intOf i).toNat)
      case atStart =>
        have hob := opens_bound xs
        rw [HNX.out] at hob
        have hbl := begunT_len kind
        exact ⟨0, begunT kind, _, Lv, Lv, opens xs, Nat.zero_le _, rfl, Lib.hid rfl, Lib.hid hS, Lib.hid (fun p hp => List.mem_append_left _ hp), Lib.hid ⟨vo, Lo, hSo, hold_a (hO3.allocAt (obT kind (.slice a3 _ c3)) (n := w3.heap.size) rfl)⟩, Lib.hid ⟨by simp, by simp, by omega, by omega, by omega⟩⟩
      case round =>
        clear hSo hO3
        obtain ⟨k, l, v, Lt, G, op, hk, rfl, HG, HS, HL, HX, HP⟩ := hrel
        by_cases hlt : k < ks.length
        · obtain ⟨q, hq⟩ : ∃ q, ks[k] = q := ⟨_, rfl⟩
          obtain ⟨vo', Lo', hSo', hO'⟩ := HX.out
          have hdk : ks.drop k = q :: ks.drop (k + 1) := by rw [← hq]; exact List.drop_eq_getElem_cons hlt
          have hkc : ∃ g off, ao2 = some ⟨g, off, none⟩ ∧ g < wr.heap.size ∧ wr.cell? ⟨g, off + k, none⟩ = some (.int .i64 q) := by
            rcases HK.out wr hO'.tail.tail.right.tail.right with ⟨h, _⟩ | ⟨g, off, cc, he, h⟩
            · rw [h] at hlt; simp at hlt
            · simp only [Value.slice.injEq] at he
              obtain ⟨rfl, _, _⟩ := he
              have := h k (.int .i64 q) (by rw [flatI]; simp [hlt, hq])
              exact ⟨g, off, rfl, World.block_lt_of_cell? _ _ this, this⟩
          obtain ⟨gk, ok, rfl, hgk, kc⟩ := hkc
          have ik : (k : Int) < ks.length := by omega
          have ik0 : (0 : Int) ≤ k := by omega
          by_cases hneg : q < 0
          · have HF := Lib.hid (show goR kind xs ks [] (opens xs) (begunT kind) = false by rw [← HG.out, hdk]; unfold goR; rw [if_pos (.inl hneg)])
            have HO4 := Lib.hid hO'.tail.tail.right.tail.right
            clear hO' hSo' hdk hq
            go_wp2
            go_ret
            exact ⟨by rw [HH.out, HF.out]; rfl, HO4.out⟩
          · by_cases hbig : (xs.length : Int) ≤ q
            · have HF := Lib.hid (show goR kind xs ks [] (opens xs) (begunT kind) = false by rw [← HG.out, hdk]; unfold goR; rw [if_pos (.inr hbig)])
              have HO4 := Lib.hid hO'.tail.tail.right.tail.right
              have hbig2 : (nn : Int) ≤ q := by rw [HNX.out] at hbig; exact hbig
              clear hO' hSo' hdk hq hbig
              go_wp2
              go_ret
              exact ⟨by rw [HH.out, HF.out]; rfl, HO4.out⟩
            · obtain ⟨p, rfl, hp⟩ : ∃ p : Nat, q = (p : Int) ∧ p < nn := ⟨q.toNat, by omega, by rw [HNX.out] at hbig; omega⟩
              obtain ⟨x, hx⟩ : ∃ x, xs[p]? = some x := ⟨xs[p]'(by rw [HNX.out]; exact hp), List.getElem?_eq_getElem _⟩
              have hxd : xs.getD p default = x := by simp [hx]
              obtain ⟨gl, ol, cl, he, hAt⟩ := rda_at HR.out hO'.tail.tail.right.tail.right HNX.out.symm hx
              simp only [Value.slice.injEq, true_and] at he
              obtain ⟨rfl, rfl⟩ := he
              obtain ⟨hgl, e0, e1, e2, e3, e4, e5⟩ := hAt _ hO'.tail.tail.right.tail.right
              have hgl2 : gl < wr.heap.size := hgl
              obtain ⟨s0, s1, s2, s3⟩ := s4 hO'.head
              have sl := lt_of_get hO'.head
              have jc : wr.cell? ⟨J, p, none⟩ = some (.bool ((ks.take k).contains (p : Int))) := (cell_of_get hO'.tail.head p).trans (arrJ_get _ hp)
              have jl := lt_of_get hO'.tail.head
              have ip : (p : Int) < nn := by omega
              have ip0 : (0 : Int) ≤ p := by omega
              have hgo : goR kind xs (ks.drop k) (ks.take k) op l = match nextO kind xs (ks.take k) l p with
                | none => false
                | some l' => goR kind xs (ks.drop (k + 1)) (ks.take k ++ [(p : Int)]) (op - openN x) l' := by
                rw [hdk]
                show (if (p : Int) < 0 ∨ (xs.length : Int) ≤ p then false else _) = _
                rw [if_neg (by rw [HNX.out]; omega), Int.toNat_natCast, hxd]
              have HO4 := Lib.hid hO'.tail.tail.right.tail.right
              cases hc : (ks.take k).contains (p : Int) with
              | true =>
                have HF := Lib.hid (show goR kind xs ks [] (opens xs) (begunT kind) = false by rw [← HG.out, hgo]; unfold nextO; rw [if_pos hc])
                rw [hc] at jc
                clear hO' hSo' hdk hq hbig hneg hgo hAt hc hx hxd
                go_wp2
                go_ret
                exact ⟨by rw [HH.out, HF.out]; rfl, HO4.out⟩
              | false =>
                rw [hc] at jc
                have HLATE := Lib.hid (late68 B w0 _ xs _ (ks.take k) vo' S p x wr (HR.out _ hO'.tail.tail.right.tail.right) (sl_rd6 hSo' (fun p hp => hO'.get p (by simp [hp]))) hO' s0 s2 hx HP.out.1 HCAP.out (by simp; omega))
                have hx2 := Lib.hid hx
                cases hlb : lateB xs x (ks.take k) with
                | true =>
                  have HF := Lib.hid (show goR kind xs ks [] (opens xs) (begunT kind) = false by rw [← HG.out, hgo]; unfold nextO; rw [if_neg (by rw [hc]; simp), hxd, if_pos hlb])
                  rw [hlb] at HLATE
                  clear hO' hSo' hdk hq hbig hneg hgo hAt hc hx hxd hlb
                  go_wp2_with (go_at_call 68; refine HLATE.out.mono ?_; rintro e w5 ⟨rfl, hO5⟩)
                  go_ret
                  exact ⟨by rw [HH.out, HF.out]; rfl, hO5.tail.tail.right.tail.right⟩
                | false =>
                  rw [hlb] at HLATE
                  have HSo := Lib.hid hSo'
                  have HQ := Lib.hid hq
                  clear hO' hdk hq hbig hneg hx
                  have HL5 := Lib.hid (show ∀ p ∈ Lt, p ∈ (S, obS (.slice (some ⟨gl, ol, none⟩) nn cap) J nn vo' op) :: (J, obJ nn (ks.take k)) :: (Lo' ++ ((w3.heap.size, obT kind v) :: (G ++ F))) from fun p hp => by
                    have := HL.out p hp
                    simp only [List.mem_append] at this
                    simp [this])
                  have hl5 : l.length ≤ 100000 := by have := HP.out.2.2.2.2; omega
                  cases hw : (withT kind l x).2 with
                  | false =>
                    have HF := Lib.hid (show goR kind xs ks [] (opens xs) (begunT kind) = false by rw [← HG.out, hgo]; unfold nextO; rw [if_neg (by rw [hc]; simp), hxd, if_neg (by rw [hlb]; simp), if_neg (by rw [hw]; simp)])
                    have HW := Lib.hid hw
                    clear hgo hc hxd hlb hw hSo'
                    go_wp2_with (go_at_call 68; refine HLATE.out.mono ?_; rintro e w5 ⟨rfl, hO5⟩)
                    obtain ⟨hgl5, a0, a1, a2, a3', a4, a5⟩ := hAt _ hO5.tail.tail.right.tail.right
                    have hgl6 : gl < w5.heap.size := hgl5
                    obtain ⟨t0, t1⟩ := tz (hO5.get (w3.heap.size, obT kind v) (by simp))
                    have tl := lt_of_get (hO5.get (w3.heap.size, obT kind v) (by simp))
                    clear e0 e1 e2 e3 e4 e5 s0 s1 s2 s3 jc kc hAt
                    go_region_with (go_at_call 69; refine (with69 B w0 _ kind l v Lt x _ HS.out HL5.out (by exact hO5.drew) hl5).mono ?_; rintro e w6 ⟨v', Lt', L', rfl, hS6, hL6, hO6⟩; obtain ⟨a6, c6, rfl, _, _⟩ := hS6.form; rw [HW.out]; have tg := hO6.get (w3.heap.size, obT kind v) (by simp); obtain ⟨t60, t61⟩ := tz tg; have tf := free_of_get tg; have tl6 := lt_of_get tg)
                    all_goals
                      have HO7 := Lib.hid (hold_b hO6 (.int .i64 kind) (.slice a6 (withT kind l x).1.length c6)).tail.tail.right.tail.right
                      clear hO6 tg
                      go_wp2
                      go_ret
                      exact ⟨by rw [HH.out, HF.out]; rfl, HO7.out⟩
                  | true =>
                    have HF := Lib.hid (show goR kind xs (ks.drop (k + 1)) (ks.take (k + 1)) (op - openN x) (withT kind l x).1 = goR kind xs ks [] (opens xs) (begunT kind) by
                      rw [← HG.out, hgo, List.take_succ_eq_append_getElem hlt, HQ.out]; unfold nextO; rw [if_neg (by rw [hc]; simp), hxd, if_neg (by rw [hlb]; simp), if_pos hw])
                    have HTK := Lib.hid (show ks.take (k + 1) = ks.take k ++ [(p : Int)] by rw [List.take_succ_eq_append_getElem hlt, HQ.out])
                    have HP2 := Lib.hid (show (∀ j ∈ ks.take (k + 1), 0 ≤ j ∧ j < xs.length) ∧ (ks.take (k + 1)).Nodup by
                      rw [HTK.out]
                      refine ⟨fun j hj => ?_, ?_⟩
                      · rcases List.mem_append.1 hj with h | h
                        · exact HP.out.1 j h
                        · simp at h; subst h; rw [HNX.out]; omega
                      · rw [List.nodup_append]; exact ⟨HP.out.2.1, by simp, fun a ha b hb => by simp at hb; subst hb; intro e; subst e; rw [List.contains_iff_mem.2 ha] at hc; cases hc⟩)
                    have hok := openN_cases x
                    have hwl := withT_len kind l x
                    have hbn := HP.out.2.2
                    have HW := Lib.hid hw
                    clear hgo hc hxd hlb hw hSo'
                    go_wp2_with (go_at_call 68; refine HLATE.out.mono ?_; rintro e w5 ⟨rfl, hO5⟩)
                    obtain ⟨hgl5, a0, a1, a2, a3', a4, a5⟩ := hAt _ hO5.tail.tail.right.tail.right
                    have hgl6 : gl < w5.heap.size := hgl5
                    obtain ⟨t0, t1⟩ := tz (hO5.get (w3.heap.size, obT kind v) (by simp))
                    have tl := lt_of_get (hO5.get (w3.heap.size, obT kind v) (by simp))
                    clear e0 e1 e2 e3 e4 e5 s0 s1 s2 s3 jc kc hAt
                    go_region_with (go_at_call 69; refine (with69 B w0 _ kind l v Lt x _ HS.out HL5.out (by exact hO5.drew) hl5).mono ?_; rintro e w6 ⟨v', Lt', L', rfl, hS6, hL6, hO6⟩; obtain ⟨a6, c6, rfl, _, _⟩ := hS6.form; rw [HW.out]; have tg := hO6.get (w3.heap.size, obT kind v) (by simp); obtain ⟨t60, t61⟩ := tz tg; have tf := free_of_get tg; have tl6 := lt_of_get tg)
                    all_goals
                      have HO7 := Lib.hid (hold_b hO6 (.int .i64 kind) (.slice a6 (withT kind l x).1.length c6))
                      have HS6 := Lib.hid hS6
                      have HL6 := Lib.hid hL6
                      clear hO6 tg hS6 hL6 t60 t61 tf
                      go_wp2_with (go_at_call 70; refine (push70 B w0 _ xs _ nn (ks.take k) op S J p x _ (fun w' hw' => HR.out w' hw'.tail.right) ⟨vo', Lo', HSo.out, HO7.out⟩ HNX.out.symm hx2.out (by omega) (by simp; omega)).mono ?_; rintro e w8 ⟨rfl, hX8⟩)
                      exact ⟨⟨k + 1, (withT kind l x).1, _, Lt', L' ++ G, op - openN x, by omega, by go_num, HF, HS6, Lib.hid (fun p hp => by
                        rcases List.mem_append.1 (HL6.out p hp) with h | h
                        · simp [h]
                        · have := HL.out p h
                          simp only [List.mem_append] at this
                          simp only [List.mem_append]
                          rcases this with h | h
                          · exact .inl (.inr h)
                          · exact .inr h), Lib.hid (by rw [HTK.out]; exact hX8), Lib.hid ⟨HP2.out.1, HP2.out.2, by omega, by omega, by omega⟩⟩, by simp [intOf]; omega⟩
        · obtain rfl : k = ks.length := by omega
          obtain ⟨vo', Lo', hSo', hO'⟩ := HX.out
          obtain ⟨s0, s1, s2, s3⟩ := s4 hO'.head
          have sl := lt_of_get hO'.head
          have HF := Lib.hid (show goR kind xs ks [] (opens xs) (begunT kind) = (op == 0) by rw [← HG.out, List.drop_length]; rfl)
          have HO4 := Lib.hid hO'.tail.tail.right.tail.right
          clear hO' hSo'
          go_wp2
          go_ret
          exact ⟨by rw [HH.out, HF.out]; rfl, HO4.out⟩
    · have hb : (c != 0) = true := by simp [h0]
      have HH := Lib.hid (show holdsR kind xs ks = false by unfold holdsR; rw [hk, hc, show (c == 0) = false by simp [h0]]; rfl)
      clear hR hK hO hk hc hcap h0
      go_enter Try.func40, Try.ntmps40
      go_wp2_with (first | (go_at_call 67; refine HKN.out.mono ?_; rintro e w' ⟨rfl, rfl⟩) | (go_at_call 38; refine HC.out.mono ?_; rintro e w1 ⟨rfl, hO1, _⟩))
      go_ret
      exact ⟨by rw [HH.out]; rfl, hO1⟩

end Go.Proofs.Ytojcojoleodjmaa
