/-
  spec: slices of orders; contract of the document's all. Condition: few orders.
-/
import Derived.Test.YtojcojoleodjmaaSpZ
import Derived.Test.YtojcojoleodjmaaSpW
namespace Go.Proofs.Ytojcojoleodjmaa
open Go.RowKit Go.Shelf Go.Sh
attribute [local go_sem ↓] Go.wp_at_zero Go.wp_at_succ

theorem Try.info28 : (Try.prog.info? 28).map (fun i => (i.zero, i.size, i.bytes)) = some (some (.slice none 0 0), 1, 24) := by kernel_rfl

/-- A slice's three words. -/
structure SV : Type where
  a : Option Addr
  n : Nat
  c : Nat
abbrev sv (s : SV) : Value := .slice s.a s.n s.c
abbrev S1 (s : SV) : List Value := [sv s]
theorem S1_len (s : SV) : (S1 s).length = 1 := rfl
theorem S1_one (s : SV) : ∀ u ∈ S1 s, u.oneCell' = true := fun u h => by simp at h; subst h; rfl

/-- Each of these is an order, its cells among the blocks. -/
def Mem (xss : List (List Int)) (ss : List SV) (Lin : List (Nat × Obj)) : Prop :=
  ss.length = xss.length ∧ ∀ (i : Nat) (x : List Int), xss[i]? = some x → ∃ s Li, ss[i]? = some s ∧ Sl 3 1 I (sv s) x Li ∧ ∀ p ∈ Li, p ∈ Lin
theorem mem_nil : Mem [] [] [] := ⟨rfl, fun i x h => by simp at h⟩
theorem mem_push {xss : List (List Int)} {ss : List SV} {Lin L1 : List (Nat × Obj)} {x : List Int} {s : SV} (h : Mem xss ss Lin) (hs : Sl 3 1 I (sv s) x L1) : Mem (xss ++ [x]) (ss ++ [s]) (Lin ++ L1) := by
  refine ⟨by simp [h.1], fun i y hy => ?_⟩
  by_cases hi : i < xss.length
  · rw [List.getElem?_append_left hi] at hy
    obtain ⟨s', Li, h1, h2, h3⟩ := h.2 i y hy
    exact ⟨s', Li, by rw [List.getElem?_append_left (by rw [h.1]; exact hi)]; exact h1, h2, fun p hp => List.mem_append_left _ (h3 p hp)⟩
  · have hi2 : i = xss.length := by
      have := (List.getElem?_eq_some_iff.1 hy).1
      simp at this
      omega
    subst hi2
    simp at hy
    subst hy
    exact ⟨s, L1, by rw [← h.1]; simp, hs, fun p hp => List.mem_append_right _ hp⟩

/-- A slice of orders. -/
def SlL (v : Value) (xss : List (List Int)) (L : List (Nat × Obj)) : Prop := ∃ ss L0 Lin, Sl 28 1 S1 v ss L0 ∧ Mem xss ss Lin ∧ L = L0 ++ Lin
theorem slL_nil : SlL (.slice none 0 0) [] [] := ⟨[], [], [], Sl.nil, mem_nil, rfl⟩

theorem al_a {B : Nat} {w0 w : World} {n : Nat × Obj} {L1 L0 Lin F : List (Nat × Obj)} (h : Sh.Own B w0 w (n :: (L1 ++ ((L0 ++ Lin) ++ F)))) : Sh.Own B w0 w (L0 ++ (n :: (L1 ++ (Lin ++ F)))) := by
  rw [List.append_assoc] at h
  exact h.shuf [[n], L1, L0, Lin, F] [2, 0, 1, 3, 4] rfl rfl
theorem al_b {B : Nat} {w0 w : World} {n : Nat × Obj} {L1 L2 Lin F : List (Nat × Obj)} (h : Sh.Own B w0 w (L2 ++ (n :: (L1 ++ (Lin ++ F))))) : Sh.Own B w0 w ((L2 ++ (Lin ++ L1)) ++ F) := by
  rw [List.append_assoc, List.append_assoc]
  exact (h.shuf [L2, [n], L1, Lin, F] [1, 0, 3, 2, 4] rfl rfl).tail
theorem al_c {B : Nat} {w0 w : World} {n : Nat × Obj} {L1 L F : List (Nat × Obj)} (h : Sh.Own B w0 w (n :: (L1 ++ (L ++ F)))) : Sh.Own B w0 w (L1 ++ (n :: (L ++ F))) := h.shuf [[n], L1, L ++ F] [1, 0, 2] rfl rfl
theorem al_d {B : Nat} {w0 w : World} {n : Nat × Obj} {L2 L F : List (Nat × Obj)} (h : Sh.Own B w0 w (L2 ++ (n :: (L ++ F)))) : Sh.Own B w0 w (L ++ (n :: (L2 ++ F))) := h.shuf [L2, [n], L, F] [2, 1, 0, 3] rfl rfl
theorem al_e {B : Nat} {w0 w : World} {n : Nat × Obj} {L2 L F : List (Nat × Obj)} (h : Sh.Own B w0 w (L ++ (n :: (L2 ++ F)))) : Sh.Own B w0 w (L ++ F) := (show Sh.Own B w0 w (L2 ++ (L ++ F)) from (h.shuf [L, [n], L2, F] [1, 2, 0, 3] rfl rfl).tail).right

/-- A slice of these orders, beside what was owned. -/
def NewL (B : Nat) (w0 : World) (F : List (Nat × Obj)) (xss : List (List Int)) (e : Ending) (w' : World) : Prop := ∃ v L, e = .returned v ∧ SlL v xss L ∧ Sh.Own B w0 w' (L ++ F)
def CutAl (B : Nat) (w0 : World) (F : List (Nat × Obj)) (xss : List (List Int)) (v : Value) (w : World) : Prop := ∃ L, Hid (SlL v xss L) ∧ Hid (Sh.Own B w0 w (L ++ F))
def RelAl (B : Nat) (w0 : World) (F : List (Nat × Obj)) (kind : Int) (xs : List C6) (f : Nat) (ks : List Int) (out : List (List Int)) (s3 s9 : Value) (w : World) : Prop :=
  ∃ (k : Nat) (L : List (Nat × Obj)), k ≤ xs.length ∧ s9 = .int .i64 k ∧ Hid (SlL s3 (out ++ partD kind xs f ks k) L) ∧ Hid (Sh.Own B w0 w (L ++ F))

set_option maxRecDepth 100000 in
set_option maxHeartbeats 4000000 in
theorem all58 (B : Nat) (w0 : World) (kind : Int) (ao : Option Addr) (nn cap : Nat) (xs : List C6) (hnc : nn ≤ cap) (hx : xs.length ≤ 900) (hnx : xs.length = nn) :
    ∀ (f : Nat) (ks : List Int) (vk : Value) (Lk : List (Nat × Obj)) (out : List (List Int)) (vo : Value) (Lo F : List (Nat × Obj)) (w : World), f + ks.length = xs.length + 1 → (∀ k ∈ ks, 0 ≤ k ∧ k < (xs.length : Int)) → ks.Nodup →
      RdA B w0 F (.slice ao nn cap) xs → Sl 3 1 I vk ks Lk → (∀ p ∈ Lk, p ∈ F) → SlL vo out Lo → Sh.Own B w0 w (Lo ++ F) → (out ++ allD kind xs f ks).length ≤ 100000 →
      Calls Try.prog 58 #[.int .i64 kind, .slice ao nn cap, vk, vo] w (NewL B w0 F (out ++ allD kind xs f ks)) := by
  obtain ⟨i3, hi3, hz30, hz31, hz32⟩ := info_parts Try.info3
  obtain ⟨i8, hi8, hz80, hz81, hz82⟩ := info_parts Try.info28
  intro f
  induction f with
  | zero =>
    intro ks vk Lk out vo Lo F w hf hk hn
    have := nodup_le hn hk
    exact absurd hf (by omega)
  | succ f ih =>
    intro ks vk Lk out vo Lo F w hf hks hnd hR hSk hLk hSo hO hlen
    obtain ⟨a2, c2, rfl, _, _⟩ := hSk.form
    have hkl := nodup_le hnd hks
    have HIH := Lib.hid ih
    have HR := Lib.hid hR
    have HSk := Lib.hid hSk
    have HLk := Lib.hid hLk
    have HSo := Lib.hid hSo
    have HO := Lib.hid hO
    have HKS := Lib.hid hks
    have HND := Lib.hid hnd
    have HF := Lib.hid hf
    have HNX := Lib.hid hnx
    have HLEN := Lib.hid hlen
    have HB := Lib.hid (fun w F' (hO : Sh.Own B w0 w (F' ++ F)) => holds41 B w0 (F' ++ F) kind ao nn cap xs ks _ w hR.more (fun w' hw => sl_rd6 hSk (fun p hp => hw.right.get p (hLk p hp))) hO hnc hx (by omega))
    have HMAY := Lib.hid (fun w F' n (hn : n < xs.length) (hO : Sh.Own B w0 w (F' ++ F)) => may74 B w0 (F' ++ F) kind ao nn cap xs ks _ n w hR.more (fun w' hw => sl_rd6 hSk (fun p hp => hw.right.get p (hLk p hp))) hO hks hn hx (by omega))
    obtain ⟨m, hm⟩ : ∃ m, ks.length = m := ⟨_, rfl⟩
    have HM := Lib.hid hm
    have hmx : m ≤ 900 := by omega
    obtain ⟨b, hb⟩ : ∃ b, holdsD kind xs ks = b := ⟨_, rfl⟩
    have HBB := Lib.hid hb
    rw [hb] at HB
    rw [hm] at HB HMAY HSk ⊢
    clear ih hR hSk hLk hSo hO hks hnd hf hnx hlen hm hb hkl
    go_enter Try.func58, Try.ntmps58
    go_upto_if 13 with (go_at_call 41; refine (HB.out _ _ HO.out).mono ?_; rintro e w1 ⟨rfl, hO1⟩)
    have HO1 := Lib.hid hO1
    clear HB hO1 HO
    go_cut [3] (fun s3 wx => CutAl B w0 F (out ++ headD kind xs ks) s3 wx)
    case first =>
      cases b with
      | false =>
        have HH := Lib.hid (show out ++ headD kind xs ks = out by unfold headD; rw [HBB.out]; simp)
        clear HIH HMAY
        go_wp2
        go_meet
        exact ⟨Lo, by rw [HH.out]; exact HSo, HO1⟩
      | true =>
        have HH := Lib.hid (show out ++ headD kind xs ks = out ++ [ks] by unfold headD; rw [HBB.out]; simp)
        have hl2 : out.length ≤ 100000 := by have := HLEN.out; rw [List.length_append] at this; omega
        obtain ⟨ss, L0, Lin, hS0, hMem, rfl⟩ := HSo.out
        have HS0 := Lib.hid hS0
        have HMem := Lib.hid hMem
        have HSL := Lib.hid hMem.1
        clear HIH HMAY hS0 hMem
        go_wp2_with (first
          | (at_builtin; refine wpList_append_all rfl (.const (.slice none 0 0)) (.tmp 15) 28 rfl _ _ _ Try.underlying28 hi3 hz30 hz31 hz32 rfl I_len I_one rfl (Sl.nil (α := Int)) (L := []) (F := (L0 ++ Lin) ++ F) (by exact HO1.out) _ rfl ks Lk HSk.out (fun p hp => List.mem_append_right _ (HLk.out p hp)) (by simp [maxLen, HM.out]; omega) (by simp [HM.out]; omega) ?_; intro a5 c5 w5 L5 hS5 hO5 _; rw [HM.out, List.nil_append, List.length_nil, Nat.zero_add] at hS5; rw [HM.out, List.length_nil, Nat.zero_add]; have HS5 := Lib.hid hS5; have HO5 := Lib.hid (al_a (hO5.allocAt (Obj.cells #[.slice a5 m c5] 28 (0, 0)) (n := w5.heap.size) rfl)); have HN5 := Lib.hid (news_blk6 (C := #[.slice a5 m c5]) (t := 28) (fr := (0, 0)) (hO5.allocAt (Obj.cells #[.slice a5 m c5] 28 (0, 0)) (n := w5.heap.size) rfl).head); clear hS5 hO5)
          | (at_builtin; refine wpList_append_sl rfl (.tmp 14) (.tmp 17) 63 rfl _ _ _ Try.underlying63 hi8 hz80 hz81 hz82 rfl S1_len S1_one rfl HS0.out (by exact HO5.out) ⟨w5.heap.size, 0, none⟩ [(⟨a5, m, c5⟩ : SV)] 1 1 rfl rfl (by exact HN5.out) (by decide) (by rw [HSL.out]; simp [maxLen]; omega) (by rw [HSL.out]; omega) ?_; intro g6 o6 c6 w6 L6 hS6 hO6 _ _; have HS6 := Lib.hid hS6; have HO6 := Lib.hid (al_b hO6); clear hS6 hO6))
        go_meet
        exact ⟨_, by rw [HH.out]; exact Lib.hid ⟨_, L6, Lin ++ L5, HS6.out, mem_push HMem.out HS5.out, rfl⟩, HO6⟩
    case rest =>
      obtain ⟨L, HS, HO2⟩ := hcut
      clear HBB HSo HO1
      go_wp2
      go_loopw [3, 9] (fun s3 s9 wr => RelAl B w0 F kind xs f ks out s3 s9 wr) (fun _ s9 _ => nn - (intOf s9).toNat)
      case atStart => exact ⟨0, L, Nat.zero_le _, rfl, by unfold partD; simpa using HS, HO2⟩
      case round =>
        clear HS HO2
        obtain ⟨k, L, hk, rfl, HS, HO2⟩ := hrel
        by_cases hlt : k < xs.length
        · have ik : (k : Int) < nn := by have := HNX.out; omega
          have ik0 : (0 : Int) ≤ k := by omega
          have hkn : k < nn := by have := HNX.out; omega
          have HM74 := Lib.hid (HMAY.out wr L k hlt HO2.out)
          obtain ⟨b2, hb2⟩ : ∃ b, mayD kind xs ks k = b := ⟨_, rfl⟩
          rw [hb2] at HM74
          cases b2 with
          | false =>
            have HP := Lib.hid (show out ++ partD kind xs f ks (k + 1) = out ++ partD kind xs f ks k by rw [partD_succ]; unfold restD; rw [hb2]; simp)
            clear hb2
            go_wp2_with (go_at_call 74; refine HM74.out.mono ?_; rintro e w3 ⟨rfl, hO3⟩)
            exact ⟨⟨k + 1, L, by omega, by go_num, by rw [HP.out]; exact HS, Lib.hid hO3⟩, by simp [intOf]; omega⟩
          | true =>
            have HP := Lib.hid (show out ++ partD kind xs f ks (k + 1) = (out ++ partD kind xs f ks k) ++ allD kind xs f (ks ++ [(k : Int)]) by rw [partD_succ, List.append_assoc]; unfold restD; rw [hb2]; simp)
            have HNC := Lib.hid (show (k : Int) ∉ ks by
              intro hc
              unfold mayD at hb2
              rw [if_pos (List.contains_iff_mem.2 hc)] at hb2
              cases hb2)
            have HTL := Lib.hid (show ((out ++ partD kind xs f ks k) ++ allD kind xs f (ks ++ [(k : Int)])).length ≤ 100000 by
              rw [← HP.out]
              have h1 := HLEN.out
              have h2 := partD_len (kind := kind) (f := f) (ks := ks) (show k + 1 ≤ xs.length by omega)
              rw [List.length_append] at h1 ⊢
              omega)
            have HCALL := Lib.hid (fun w6 n1 a6 c6 L6 s3 (hS6 : Sl 3 1 I (.slice a6 (m + 1) c6) (ks ++ [(k : Int)]) L6) (hSs : SlL s3 (out ++ partD kind xs f ks k) L) (hO6 : Sh.Own B w0 w6 (L ++ (n1 :: (L6 ++ F)))) =>
              HIH.out (ks ++ [(k : Int)]) (.slice a6 (m + 1) c6) L6 (out ++ partD kind xs f ks k) s3 L (n1 :: (L6 ++ F)) w6 (by have := HF.out; simp; omega) (fun j hj => by
                rcases List.mem_append.1 hj with h | h
                · exact HKS.out j h
                · simp at h; subst h; omega) (by rw [List.nodup_append]; exact ⟨HND.out, by simp, fun a ha b hb => by simp at hb; subst hb; intro e; exact HNC.out (e ▸ ha)⟩)
                (fun w' hw => HR.out w' hw.tail.right) hS6 (fun p hp => by simp [hp]) hSs hO6 HTL.out)
            clear hb2
            go_wp2_with (first
              | (go_at_call 74; refine HM74.out.mono ?_; rintro e w3 ⟨rfl, hO3⟩)
              | (at_builtin; refine wpList_append_all rfl (.const (.slice none 0 0)) (.tmp 32) 28 rfl _ _ _ Try.underlying28 hi3 hz30 hz31 hz32 rfl I_len I_one rfl (Sl.nil (α := Int)) (L := []) (F := L ++ F) (by exact hO3) _ rfl ks Lk HSk.out (fun p hp => List.mem_append_right _ (HLk.out p hp)) (by simp [maxLen, HM.out]; omega) (by simp [HM.out]; omega) ?_; intro a5 c5 w5 L5 hS5 hO5 _; rw [HM.out, List.nil_append, List.length_nil, Nat.zero_add] at hS5; rw [HM.out, List.length_nil, Nat.zero_add]; have HS5 := Lib.hid hS5; have HO5 := Lib.hid (al_c (hO5.allocAt (Obj.cells #[.int .i64 k] 3 (0, 0)) (n := w5.heap.size) rfl)); have HN5 := Lib.hid (news_blk6 (C := #[.int .i64 k]) (t := 3) (fr := (0, 0)) (hO5.allocAt (Obj.cells #[.int .i64 k] 3 (0, 0)) (n := w5.heap.size) rfl).head); clear hS5 hO5)
              | (at_builtin; refine wpList_append_sl rfl (.tmp 33) (.tmp 35) 28 rfl _ _ _ Try.underlying28 hi3 hz30 hz31 hz32 rfl I_len I_one rfl HS5.out (by exact HO5.out) ⟨w5.heap.size, 0, none⟩ [(k : Int)] 1 1 rfl rfl (by exact HN5.out) (by decide) (by rw [HM.out]; simp [maxLen]; omega) (by rw [HM.out]; omega) ?_; intro g6 o6 c6 w6 L6 hS6 hO6 _ _; rw [HM.out] at hS6 ⊢; have HS6 := Lib.hid hS6; have HO6 := Lib.hid (al_d hO6); clear hS6 hO6)
              | (go_at_call 58; (with_reducible refine (HCALL.out _ _ _ _ _ _ HS6.out HS.out HO6.out).mono ?_); rintro e w7 ⟨v7, L7, rfl, hS7, hO7⟩; have HS7 := Lib.hid hS7; have HO7 := Lib.hid (al_e hO7); clear hS7 hO7))
            exact ⟨⟨k + 1, L7, by omega, by go_num, by rw [HP.out]; exact HS7, HO7⟩, by simp [intOf]; omega⟩
        · obtain rfl : k = nn := by have := HNX.out; omega
          have HP := Lib.hid (show partD kind xs f ks k = allD kind xs (f + 1) ks by rw [allD_succ, HNX.out]; rfl)
          rw [HP.out] at HS
          go_wp2
          go_ret
          exact ⟨_, L, rfl, HS.out, HO2.out⟩

end Go.Proofs.Ytojcojoleodjmaa
