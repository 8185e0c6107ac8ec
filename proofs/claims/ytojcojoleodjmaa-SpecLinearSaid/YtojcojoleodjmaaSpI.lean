/-
  spec: contracts of All and its closure. Condition: few calls.
-/
import Derived.Test.YtojcojoleodjmaaSpG
import Derived.Test.YtojcojoleodjmaaSpH
namespace Go.Proofs.Ytojcojoleodjmaa
open Go.RowKit Go.Shelf Go.Sh
attribute [local go_sem] Oper.semAt_some

/-- All orders, where calls may be looked at. -/
def allT (kind : Int) (xs : List C6) : List (List Int) := if mayR kind xs = 0 then allO kind xs (xs.length + 1) [] (opens xs) (begunT kind) else []

theorem all37 (kind : Int) (ao : Option Addr) (n c : Nat) (w : World) :
    Calls Try.prog 37 #[.int .i64 kind, .slice ao n c] w fun e w' => e = .returned (.func (.func 59) #[] #[.pointer (some ⟨w.heap.size, 0, none⟩), .pointer (some ⟨w.heap.size + 1, 0, none⟩)]) ∧ w' = (w.alloc (.cells #[.int .i64 kind] 3)).alloc (.cells #[.slice ao n c] 59) := by
  go_enter Try.func37, Try.ntmps37
  go_wp2
  go_ret
  exact ⟨by simp, rfl⟩

abbrev obK (kind : Int) : Obj := Obj.cells #[.int .i64 kind] 3 (0, 0)
abbrev obL (lv : Value) : Obj := Obj.cells #[lv] 59 (0, 0)

theorem goes_e {B : Nat} {w0 w : World} {s j : Nat × Obj} {Lv Lo Lb G : List (Nat × Obj)} (h : Sh.Own B w0 w (Lv ++ (s :: j :: (Lo ++ (Lb ++ G))))) : Sh.Own B w0 w (s :: j :: (Lo ++ (Lb ++ (Lv ++ G)))) :=
  h.shuf [Lv, [s, j], Lo, Lb, G] [1, 2, 3, 0, 4] rfl rfl
theorem goes_f {B : Nat} {w0 w : World} {s j : Nat × Obj} {Lv Lo Lb G : List (Nat × Obj)} (h : Sh.Own B w0 w (s :: j :: (Lo ++ (Lv ++ (Lb ++ G))))) : Sh.Own B w0 w (s :: j :: (Lo ++ (Lb ++ (Lv ++ G)))) :=
  h.shuf [[s, j], Lo, Lv, Lb, G] [0, 1, 3, 2, 4] rfl rfl
theorem goes_g {B : Nat} {w0 w : World} {Lv Lb G : List (Nat × Obj)} {lv : Value} {N S J : Nat} {o : List Int} {op : Int} (h : Sx B w0 (Lb ++ (Lv ++ G)) lv N o op S J w) : Sh.Own B w0 w (Lb ++ G) := by
  obtain ⟨vo, Lo, _, h2⟩ := h
  exact (show Sh.Own B w0 w (Lo ++ (Lv ++ (Lb ++ G))) from (h2.shuf [[(S, obS lv J N vo op), (J, obJ N o)], Lo, Lb, Lv, G] [0, 1, 3, 2, 4] rfl rfl).tail.tail).right.right
theorem goes_b {B : Nat} {w0 w : World} {Lv G : List (Nat × Obj)} {lv : Value} {N S J : Nat} {o : List Int} {op : Int} {K Kx : List (List Int) → List (Nat × Obj) → Prop} {all : List (List Int)} {e : Ending} (h : GoesPost B w0 (Lv ++ G) lv N o op S J K Kx [] all e w) :
    ∃ b, e = .returned (.bool b) ∧ ((∃ Lb, K all Lb ∧ Sh.Own B w0 w (Lb ++ G)) ∨ (∃ pre Lb, pre <+: all ∧ Kx pre Lb ∧ Sh.Own B w0 w (Lb ++ G))) := by
  rcases h with ⟨rfl, Lb, h1, h2⟩ | ⟨rfl, q, Lb, h0, h1, h2⟩
  · exact ⟨true, rfl, .inl ⟨Lb, h1, goes_g h2⟩⟩
  · exact ⟨false, rfl, .inr ⟨q, Lb, h0, h1, goes_g h2⟩⟩
theorem begunT_len (kind : Int) : (begunT kind).length ≤ 1 := by unfold begunT; split <;> simp

set_option maxRecDepth 100000 in
set_option maxHeartbeats 4000000 in
theorem allc59 (B : Nat) (w0 : World) (F : List (Nat × Obj)) (kind : Int) (lv : Value) (xs : List C6) (n Bk Bl : Nat) (hR : RdA B w0 F lv xs) (hcap : ∀ ao n c, lv = .slice ao n c → n ≤ c) (hx : xs.length ≤ 9223372036854775807) :
    SeqSep Fence.wide n Try.prog 59 #[.pointer (some ⟨Bk, 0, none⟩), .pointer (some ⟨Bl, 0, none⟩)] B w0 EncO (allT kind xs) ((Bl, obL lv) :: (Bk, obK kind) :: F) := by
  intro l J Jx Lb W hY hJ hO
  have bl := hO.get (Bl, obL lv) (by simp)
  have bk := hO.get (Bk, obK kind) (by simp)
  have k0 : W.cell? ⟨Bk, 0, none⟩ = some (.int .i64 kind) := cell_of_get bk 0
  have l0 : W.cell? ⟨Bl, 0, none⟩ = some lv := cell_of_get bl 0
  have hRW : RdA B w0 (Lb ++ ((Bl, obL lv) :: (Bk, obK kind) :: F)) lv xs := fun w' hw' => hR w' hw'.right.tail.tail
  have HM := Lib.hid (may57 B w0 _ kind xs lv W (hRW W hO) hO hx hcap)
  by_cases h0 : mayR kind xs = 0
  · have h8 : xs.length ≤ 8 := by
      unfold mayR at h0
      split at h0
      · split at h0
        · split at h0
          · cases h0
          · omega
        · exact absurd h0 (by assumption)
      · cases h0
    have HT := Lib.hid (show allT kind xs = allO kind xs (xs.length + 1) [] (opens xs) (begunT kind) by unfold allT; rw [if_pos h0])
    have HOB := Lib.hid (opens_bound xs)
    rw [HT.out] at hY ⊢
    rw [h0] at HM
    have HJ := Lib.hid hJ
    have HR := Lib.hid hR
    have HY := Lib.hid hY
    have HCAP := Lib.hid hcap
    clear hJ hO hY hR hRW bl bk h0 hcap
    refine callsIn_of_wp Try.func59 rfl trivial ?_ rfl
    simp only [Try.ntmps59, List.size_toArray, List.length_cons, List.length_nil, Nat.reduceAdd, Nat.reduceSub, Array.replicate_succ, Array.replicate_zero, List.push_toArray, List.append_toArray, List.nil_append, List.cons_append]
    gi_wp2
    refine ⟨trivial, fun h => (by cases h), (callsIn_wide.2 HM.out).mono ?_⟩
    rintro e w' ⟨rfl, hC, _⟩
    clear k0 l0
    have k0 : w'.cell? ⟨Bk, 0, none⟩ = some (.int .i64 kind) := cell_of_get (hC.get (Bk, obK kind) (by simp)) 0
    have l0 : w'.cell? ⟨Bl, 0, none⟩ = some lv := cell_of_get (hC.get (Bl, obL lv) (by simp)) 0
    gi_wp2
    gi_region_with (first
      | (refine ⟨trivial, fun h => (by cases h), (callsIn_wide.2 (looks60 B w0 (Lb ++ ((Bl, obL lv) :: (Bk, obK kind) :: F)) xs lv xs.length _ (fun w' hw' => HR.out w' hw'.right.tail.tail) (by exact hC.drew) rfl (by omega) HCAP.out)).mono ?_⟩; rintro e wl ⟨S, J', rfl, vo, Lo, hSo, hC⟩; have k0 : wl.cell? ⟨Bk, 0, none⟩ = some (.int .i64 kind) := cell_of_get (hC.get (Bk, obK kind) (by simp)) 0)
      | (refine ⟨trivial, fun h => (by cases h), (callsIn_wide.2 (begun62 B w0 ((S, obS lv J' xs.length vo (opens xs)) :: (J', obJ xs.length []) :: (Lo ++ (Lb ++ ((Bl, obL lv) :: (Bk, obK kind) :: F)))) kind _ (by exact hC))).mono ?_⟩; rintro e wb ⟨vb, Lv, rfl, hSb, hC⟩)
      | (refine ⟨trivial, fun h => (by cases h), (callsIn_wide.2 (callsIn_wide.1 (goes61 B w0 lv kind xs xs.length (n - 1) l S J' J Jx _ rfl (by omega) HCAP.out HY.out (xs.length + 1) [] (opens xs) (begunT kind) vb Lv (Lv ++ ((Bl, obL lv) :: (Bk, obK kind) :: F)) Lb [] _ (by simp) (by simp) List.nodup_nil (by have := HOB.out; simp; omega) (by have := begunT_len kind; simp; omega) (by simp) (fun w' hw' => HR.out w' hw'.right.tail.tail) (by exact hSb) (fun p hp => List.mem_append_left _ hp) HJ.out ⟨vo, Lo, hSo, goes_e hC⟩))).mono ?_⟩; intro e wg hG; obtain ⟨b, rfl, hGG⟩ := goes_b hG; clear hG)
      | fail "no arm")
    all_goals
      go_end0
      exact ⟨⟨_, rfl⟩, hGG⟩
  · have hb : (mayR kind xs == 0) = false := by simp [h0]
    have HT := Lib.hid (show allT kind xs = [] by unfold allT; rw [if_neg h0])
    have HJ := Lib.hid hJ
    clear hJ hO hY hR hRW bl bk h0 hcap
    refine callsIn_of_wp Try.func59 rfl trivial ?_ rfl
    simp only [Try.ntmps59, List.size_toArray, List.length_cons, List.length_nil, Nat.reduceAdd, Nat.reduceSub, Array.replicate_succ, Array.replicate_zero, List.push_toArray, List.append_toArray, List.nil_append, List.cons_append]
    gi_wp2
    refine ⟨trivial, fun h => (by cases h), (callsIn_wide.2 HM.out).mono ?_⟩
    rintro e w' ⟨rfl, hO2, _⟩
    gi_wp2
    go_end0
    exact ⟨⟨_, rfl⟩, .inl ⟨Lb, by rw [HT.out]; exact HJ.out, hO2⟩⟩

end Go.Proofs.Ytojcojoleodjmaa
