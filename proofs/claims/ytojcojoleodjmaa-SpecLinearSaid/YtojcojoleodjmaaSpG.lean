/-
  spec: contract of goes, over whatever yield. Condition: few calls.
-/
import Derived.RangeFuncNested
import Derived.RangeFuncBound
import Derived.RangeFuncCalls
import Derived.RangeFuncLeaves
import Derived.OwnWalkIn
import Derived.TacticsInMore
import Derived.LoopNIn
import Derived.LoopIn
import Derived.WalkMore
import Derived.Scope
import Derived.Test.YtojcojoleodjmaaSpF
import Derived.Test.YtojcojoleodjmaaSepFor
namespace Go.Proofs.Ytojcojoleodjmaa
open Go.RowKit Go.Shelf Go.Sh
attribute [local go_sem] Oper.semAt_some

theorem wpIn_scope_wide {m : Nat} {P : Program} {c : Code} {Q : Exit → Act → World → Prop} {a : Act} {w : World} (h : c.wpIn Fence.wide m P (Exit.noGoto Q) a w) : (Code.scope c).wpIn Fence.wide m P Q a w :=
  wpIn_wide.2 (wp_scope_straight (wpIn_wide.1 h))

/-- What an order goes on with: the thing's values, once the n-th call was done. -/
def nextO (kind : Int) (xs : List C6) (o : List Int) (l : List V2) (n : Nat) : Option (List V2) :=
  if o.contains (n : Int) = true then none
  else if lateB xs (xs.getD n default) o = true then none
  else if (withT kind l (xs.getD n default)).2 = true then some (withT kind l (xs.getD n default)).1 else none

/-- All orders that begin so. -/
def allO (kind : Int) (xs : List C6) : Nat → List Int → Int → List V2 → List (List Int)
  | 0, _, _, _ => []
  | f + 1, o, op, l => (if op = 0 then [o] else []) ++ (List.range xs.length).flatMap fun n => match nextO kind xs o l n with
    | none => []
    | some l' => allO kind xs f (o ++ [(n : Int)]) (op - openN (xs.getD n default)) l'

def restO (kind : Int) (xs : List C6) (f : Nat) (o : List Int) (op : Int) (l : List V2) (n : Nat) : List (List Int) := match nextO kind xs o l n with
  | none => []
  | some l' => allO kind xs f (o ++ [(n : Int)]) (op - openN (xs.getD n default)) l'
def headO (o : List Int) (op : Int) : List (List Int) := if op = 0 then [o] else []
theorem allO_succ (kind : Int) (xs : List C6) (f : Nat) (o : List Int) (op : Int) (l : List V2) : allO kind xs (f + 1) o op l = headO o op ++ (List.range xs.length).flatMap (restO kind xs f o op l) := rfl
def partO (kind : Int) (xs : List C6) (f : Nat) (o : List Int) (op : Int) (l : List V2) (k : Nat) : List (List Int) := headO o op ++ (List.range k).flatMap (restO kind xs f o op l)
theorem partO_succ (kind : Int) (xs : List C6) (f : Nat) (o : List Int) (op : Int) (l : List V2) (k : Nat) : partO kind xs f o op l (k + 1) = partO kind xs f o op l k ++ restO kind xs f o op l k := by
  unfold partO
  rw [List.range_succ, List.flatMap_append, List.append_assoc]
  simp
theorem partO_pre {kind : Int} {xs : List C6} {f : Nat} {o : List Int} {op : Int} {l : List V2} {k : Nat} (h : k ≤ xs.length) : partO kind xs f o op l k <+: allO kind xs (f + 1) o op l := by
  rw [allO_succ]
  obtain ⟨d, hd⟩ : ∃ d, xs.length = k + d := ⟨xs.length - k, by omega⟩
  unfold partO
  rw [hd, List.range_add, List.flatMap_append, ← List.append_assoc]
  exact List.prefix_append _ _

abbrev EncO (x : List Int) (v : Value) (Lo : List (Nat × Obj)) : Prop := Sl 3 1 I v x Lo

/-- What goes leaves behind. -/
def GoesPost (B : Nat) (w0 : World) (G : List (Nat × Obj)) (lv : Value) (N : Nat) (o : List Int) (op : Int) (S J : Nat) (K Kx : List (List Int) → List (Nat × Obj) → Prop) (pre all : List (List Int)) (e : Ending) (w' : World) : Prop :=
  (e = .returned (.bool true) ∧ ∃ Lb, K (pre ++ all) Lb ∧ Sx B w0 (Lb ++ G) lv N o op S J w') ∨
  (e = .returned (.bool false) ∧ ∃ q Lb, q <+: all ∧ Kx (pre ++ q) Lb ∧ Sx B w0 (Lb ++ G) lv N o op S J w')

theorem RdA.more {B : Nat} {w0 : World} {G L : List (Nat × Obj)} {lv : Value} {xs : List C6} (h : RdA B w0 G lv xs) : RdA B w0 (L ++ G) lv xs := fun w' hw => h w' hw.right

theorem goes_sh {B : Nat} {w0 w : World} {n c s j t : Nat × Obj} {L' Lo Lb G : List (Nat × Obj)} (h : Sh.Own B w0 w (n :: (L' ++ (c :: (s :: j :: (Lo ++ (t :: (Lb ++ G)))))))) : Sh.Own B w0 w (s :: j :: (Lo ++ (Lb ++ (L' ++ (n :: t :: G))))) :=
  (h.shuf [[n], L', [c], [s, j], Lo, [t], Lb, G] [2, 3, 4, 6, 1, 0, 5, 7] rfl rfl).tail
theorem goes_x {B : Nat} {w0 w : World} {n t : Nat × Obj} {L' Lb G : List (Nat × Obj)} {lv : Value} {N S J : Nat} {o : List Int} {op : Int} (h : Sx B w0 (Lb ++ (L' ++ (n :: t :: G))) lv N o op S J w) : Sx B w0 (t :: (Lb ++ G)) lv N o op S J w := by
  obtain ⟨vo, Lo, h1, h2⟩ := h
  exact ⟨vo, Lo, h1, (h2.shuf [[(S, obS lv J N vo op), (J, obJ N o)], Lo, Lb, L', [n], [t], G] [3, 4, 0, 1, 5, 2, 6] rfl rfl).right.tail⟩
theorem goes_y {B : Nat} {w0 w : World} {n t : Nat × Obj} {L' Lb G : List (Nat × Obj)} {lv : Value} {N S J : Nat} {o : List Int} {op : Int} (h : Sx B w0 (Lb ++ (L' ++ (n :: t :: G))) lv N o op S J w) : Sx B w0 (Lb ++ G) lv N o op S J w := by
  obtain ⟨vo, Lo, h1, h2⟩ := h
  exact ⟨vo, Lo, h1, (h2.shuf [[(S, obS lv J N vo op), (J, obJ N o)], Lo, Lb, L', [n, t], G] [3, 4, 0, 1, 2, 5] rfl rfl).right.tail.tail⟩
theorem goes_z {B : Nat} {w0 w : World} {t : Nat × Obj} {G : List (Nat × Obj)} {lv : Value} {N S J : Nat} {o : List Int} {op : Int} (h : Sx B w0 (t :: G) lv N o op S J w) : Sx B w0 G lv N o op S J w := by
  obtain ⟨vo, Lo, h1, h2⟩ := h
  exact ⟨vo, Lo, h1, (h2.shuf [[(S, obS lv J N vo op), (J, obJ N o)], Lo, [t], G] [2, 0, 1, 3] rfl rfl).tail⟩

theorem goes_c {B : Nat} {w0 w : World} {s j t : Nat × Obj} {Lc Lo Lb G : List (Nat × Obj)} (h : Sh.Own B w0 w (Lc ++ (t :: (s :: j :: (Lo ++ (Lb ++ G)))))) : Sh.Own B w0 w (Lb ++ (Lc ++ (t :: s :: j :: (Lo ++ G)))) :=
  h.shuf [Lc, [t, s, j], Lo, Lb, G] [3, 0, 1, 2, 4] rfl rfl
theorem goes_d {B : Nat} {w0 w : World} {s j t : Nat × Obj} {Lo Lb G : List (Nat × Obj)} (h : Sh.Own B w0 w (Lb ++ (t :: s :: j :: (Lo ++ G)))) : Sh.Own B w0 w (s :: j :: (Lo ++ (t :: (Lb ++ G)))) :=
  h.shuf [Lb, [t], [s, j], Lo, G] [2, 3, 1, 0, 4] rfl rfl
theorem yield_depth {m : Nat} (m' : Nat) {P : Program} {l : Nat} {args : Array Value} {W : World} {R : Ending → World → Prop} (h : YieldAt Fence.wide m P l args W R) : YieldAt Fence.wide m' P l args W R := by
  obtain ⟨fn, tmps, assign, body, hy, h1, h2⟩ := h
  exact ⟨fn, tmps, assign, body, hy, h1, fun c cs _ => h2 c cs (room_wide _)⟩

theorem withT_len (kind : Int) (l : List V2) (c : C6) : (withT kind l c).1.length ≤ l.length + 1 := by
  unfold withT
  split
  · split <;> simp
  · split
    · simp
    · cases l with
      | nil => simp
      | cons x r =>
        dsimp only
        split
        · simp
        · split
          · simp
          · simp; omega
theorem openN_cases (c : C6) : openN c = 0 ∨ openN c = 1 := by unfold openN; split <;> simp
theorem nodup_le {o : List Int} {N : Nat} (hn : o.Nodup) (hk : ∀ k ∈ o, 0 ≤ k ∧ k < (N : Int)) : o.length ≤ N := by
  have h1 : (o.map Int.toNat).Nodup := by
    rw [List.nodup_iff_pairwise_ne, List.pairwise_map]
    exact hn.imp_of_mem fun {a b} ha hb hab e => hab (by have := hk a ha; have := hk b hb; omega)
  have h2 : (o.map Int.toNat) ⊆ List.range N := fun a ha => by
    obtain ⟨b, hb, rfl⟩ := List.mem_map.1 ha
    have := hk b hb
    exact List.mem_range.2 (by omega)
  have := h1.length_le_of_subset h2
  simpa using this

set_option maxRecDepth 100000 in
set_option maxHeartbeats 4000000 in
theorem goes61 (B : Nat) (w0 : World) (lv : Value) (kind : Int) (xs : List C6) (N m l' S J : Nat) (K Kx : List (List Int) → List (Nat × Obj) → Prop) (T : List (List Int))
    (hN : N = xs.length) (hN1 : N ≤ 900) (hcap : ∀ ao n c, lv = .slice ao n c → n ≤ c) (hY : SepYield Fence.wide m Try.prog l' B w0 EncO T K Kx) :
    ∀ (f : Nat) (o : List Int) (op : Int) (l : List V2) (v : Value) (Lt G Lb : List (Nat × Obj)) (pre : List (List Int)) (w : World), f + o.length = N + 1 → (∀ k ∈ o, 0 ≤ k ∧ k < xs.length) → o.Nodup → -(o.length : Int) ≤ op ∧ op ≤ 1000 → l.length ≤ 1000 + o.length →
      pre ++ allO kind xs f o op l <+: T → RdA B w0 G lv xs → Sl 77 2 C2 v l Lt → (∀ p ∈ Lt, p ∈ G) → K pre Lb → Sx B w0 (Lb ++ G) lv N o op S J w →
      CallsIn Fence.wide m Try.prog 61 #[.pointer (some ⟨S, 0, none⟩), .agg #[.int .i64 kind, v], .func (.yield l') #[] #[]] w (GoesPost B w0 G lv N o op S J K Kx pre (allO kind xs f o op l)) := by
  intro f
  induction f with
  | zero =>
    intro o op l v Lt G Lb pre w hf hk hnd
    have h1 : o.length ≤ xs.length := nodup_le hnd hk
    exact absurd hf (by omega)
  | succ f ih =>
    intro o op l v Lt G Lb pre w hf hk hnd hop hl hT hR hS hL hK hX
    have HOL := Lib.hid (show o.length ≤ N by omega)
    obtain ⟨vo, Lo, hSo, hO⟩ := hX
    obtain ⟨ao, cap, hlv, _⟩ := rd_cc (hR w hO.tail.tail.right.right)
    rw [← hN] at hlv
    subst hlv
    have HNX := Lib.hid hN.symm
    have HIH := Lib.hid ih
    have HCAP := Lib.hid hcap
    obtain ⟨s0, s1, s2, s3⟩ := s4 hO.head
    have sf := free_of_get hO.head
    have sl := lt_of_get hO.head
    have hcp := hcap _ _ _ rfl
    have hOT := (hO.allocAt (obT kind v) (n := w.heap.size) rfl).shuf [[_], [_], [_], Lo, Lb ++ G] [1, 2, 3, 0, 4] rfl rfl
    have HX0 := Lib.hid (show Sx B w0 ((w.heap.size, obT kind v) :: (Lb ++ G)) (.slice ao N cap) N o op S J _ from ⟨vo, Lo, hSo, hOT⟩)
    have HOT := Lib.hid (hO.allocAt (obT kind v) (n := w.heap.size) rfl)
    have HSo := Lib.hid hSo
    have HK0 := Lib.hid hK
    have HT := Lib.hid hT
    have HR := Lib.hid hR
    have HS := Lib.hid hS
    have HLt := Lib.hid hL
    have HKS := Lib.hid hk
    have HND := Lib.hid hnd
    have HY := Lib.hid hY
    clear hO hOT hT hR hS hL hk hnd hK hY hSo hcap hN ih
    by_cases hz : op = 0
    · subst hz
      have HH := Lib.hid (show headO o 0 = [o] from rfl)
      have HPO := Lib.hid (show pre ++ [o] <+: T from List.IsPrefix.trans ((List.prefix_append_right_inj _).2 (by rw [allO_succ, HH.out]; exact List.prefix_append _ _)) HT.out)
      refine callsIn_of_wp Try.func61 rfl trivial ?_ rfl
      simp only [Try.ntmps61, List.size_toArray, List.length_cons, List.length_nil, Nat.reduceAdd, Nat.reduceSub, Array.replicate_succ, Array.replicate_zero, List.push_toArray, List.append_toArray, List.nil_append, List.cons_append]
      gi_wp2
      refine wpIn_scope_wide ?_
      gi_wp2
      refine ⟨trivial, fun h => (by cases h), (callsIn_wide.2 (clone52 B w0 _ o vo Lo _ HSo.out (fun p hp => by simp [hp]) HOT.out (by have := HOL.out; omega))).mono ?_⟩
      rintro e w1 ⟨vc, Lc, rfl, hSc, hOc⟩
      have hYY := yield_depth (m - 1) (HY.out pre o vc Lc Lb _ w1 HPO.out hSc HK0.out (goes_c hOc))
      obtain ⟨fn, tmps, assign, body, hy, hRd⟩ := hYY
      clear hOc hSc s0 s1 s2 s3 sf sl HX0
      gi_wp2
      refine ⟨fun h => (by cases h), hRd.mono ?_⟩
      rintro e W3 (⟨rfl, Lb2, hK2, hO2⟩ | ⟨rfl, Lb2, hKx2, hO2⟩)
      · obtain ⟨s0, s1, s2, s3⟩ := s4 (hO2.get (S, obS (.slice ao N cap) J N vo 0) (by simp))
        have sl := lt_of_get (hO2.get (S, obS (.slice ao N cap) J N vo 0) (by simp))
        have HX0 := Lib.hid (show Sx B w0 ((w.heap.size, obT kind v) :: (Lb2 ++ G)) (.slice ao N cap) N o 0 S J _ from ⟨vo, Lo, HSo.out, goes_d hO2⟩)
        have HK2 := Lib.hid hK2
        clear hO2 hK2 hy HOT
        gi_wp2
        refine wpIn_label ?_
        gi_wp2
        gi_loopw [7, 8, 9, 10, 11, 32] (fun _ _ _ _ _ i wr => ∃ k : Nat, k ≤ N ∧ i = .int .i64 k ∧ ∃ Lb', Hid (K (pre ++ partO kind xs f o (0 : Int) l k) Lb') ∧ Hid (Sx B w0 ((w.heap.size, obT kind v) :: (Lb' ++ G)) (.slice ao N cap) N o (0 : Int) S J wr)) (fun _ _ _ _ _ i _ => N - (intOf i).toNat)
        case atStart => exact ⟨0, Nat.zero_le _, rfl, Lb2, Lib.hid (by simpa [partO, HH.out] using HK2.out), HX0⟩
        case round =>
          obtain ⟨k, hk, rfl, Lb', HK, HX⟩ := hrel
          by_cases hlt : k < N
          · obtain ⟨vo', Lo', hSo', hO'⟩ := HX.out
            obtain ⟨x, hx⟩ : ∃ x, xs[k]? = some x := ⟨xs[k]'(by rw [HNX.out]; exact hlt), List.getElem?_eq_getElem _⟩
            have hxd : xs.getD k default = x := by simp [hx]
            obtain ⟨gl, ol, cl, he, hAt⟩ := rda_at HR.out hO'.tail.tail.right.tail.right HNX.out.symm hx
            simp only [Value.slice.injEq, true_and] at he
            obtain ⟨rfl, rfl⟩ := he
            obtain ⟨hgl, e0, e1, e2, e3, e4, e5⟩ := hAt _ hO'.tail.tail.right.tail.right
            have hgl2 : gl < wr.heap.size := hgl
            obtain ⟨s0, s1, s2, s3⟩ := s4 hO'.head
            have sl := lt_of_get hO'.head
            have jc : wr.cell? ⟨J, k, none⟩ = some (.bool (o.contains (k : Int))) := (cell_of_get hO'.tail.head k).trans (arrJ_get o hlt)
            have jl := lt_of_get hO'.tail.head
            have ik : (k : Int) < N := by omega
            have ik0 : (0 : Int) ≤ k := by omega
            have hOC := hO'.allocAt (ob6 x) (n := wr.heap.size) rfl
            have HSo := Lib.hid hSo'
            have HOC := Lib.hid hOC
            cases hc : o.contains (k : Int) with
            | true =>
              have HNext := Lib.hid (show restO kind xs f o (0 : Int) l k = [] by unfold restO nextO; rw [if_pos hc])
              rw [hc] at jc
              clear hAt hO' hOC hSo' hc hx hxd
              gi_wp2
              refine ⟨trivial, ?_⟩
              gi_wp2
              exact ⟨⟨k + 1, by omega, by go_num, Lb', Lib.hid (by rw [partO_succ, HNext.out, List.append_nil]; exact HK.out), Lib.hid ⟨vo', Lo', HSo.out, HOC.out.tail⟩⟩, by simp [intOf]; omega⟩
            | false =>
              rw [hc] at jc
              have HLATE := Lib.hid (late68 B w0 _ xs _ o vo' S k x _ (HR.out _ hOC.tail.tail.tail.right.tail.right) (sl_rd6 hSo' (fun p hp => hOC.get p (by simp [hp]))) hOC (s4 hOC.tail.head).1 (s4 hOC.tail.head).2.2.1 hx HKS.out HCAP.out (by have := HOL.out; omega))
              have hx2 := Lib.hid hx
              cases hlb : lateB xs x o with
              | true =>
                have HNext := Lib.hid (show restO kind xs f o (0 : Int) l k = [] by unfold restO nextO; rw [if_neg (by rw [hc]; simp), hxd, if_pos hlb])
                rw [hlb] at HLATE
                clear hAt hO' hOC hSo' hc hx hxd hlb
                gi_wp2
                refine ⟨trivial, fun h => (by cases h), (callsIn_wide.2 HLATE.out).mono ?_⟩
                rintro e w2 ⟨rfl, hO2⟩
                gi_wp2
                exact ⟨⟨k + 1, by omega, by go_num, Lb', Lib.hid (by rw [partO_succ, HNext.out, List.append_nil]; exact HK.out), Lib.hid ⟨vo', Lo', HSo.out, hO2.tail⟩⟩, by simp [intOf]; omega⟩
              | false =>
                rw [hlb] at HLATE
                have hl2 : l.length ≤ 100000 := by have := HOL.out; omega
                have HL2 := Lib.hid (show ∀ p ∈ Lt, p ∈ (wr.heap.size, ob6 x) :: ((S, obS (.slice (some ⟨gl, ol, none⟩) N cap) J N vo' (0 : Int)) :: (J, obJ N o) :: (Lo' ++ ((w.heap.size, obT kind v) :: (Lb' ++ G)))) from fun p hp => by simp [HLt.out p hp])
                cases hw : (withT kind l x).2 with
                | false =>
                  have HNext := Lib.hid (show restO kind xs f o (0 : Int) l k = [] by unfold restO nextO; rw [if_neg (by rw [hc]; simp), hxd, if_neg (by rw [hlb]; simp), if_neg (by rw [hw]; simp)])
                  have HW := Lib.hid hw
                  clear hAt hO' hOC hSo' hc hx hxd hlb hw
                  gi_wp2
                  refine ⟨trivial, fun h => (by cases h), (callsIn_wide.2 HLATE.out).mono ?_⟩
                  rintro e w2 ⟨rfl, hO2⟩
                  obtain ⟨c0, c1, c2, c3, c4, c5⟩ := cells6 (hO2.get (wr.heap.size, ob6 x) (by simp))
                  simp only [Nat.zero_add] at c1 c2 c3 c4 c5
                  obtain ⟨t0, t1⟩ := tz (hO2.get (w.heap.size, obT kind v) (by simp))
                  have HO2 := Lib.hid hO2
                  clear hO2
                  gi_wp2
                  refine ⟨trivial, fun h => (by cases h), (callsIn_wide.2 (with69 B w0 _ kind l v Lt x _ HS.out HL2.out HO2.out hl2)).mono ?_⟩
                  rintro e w3 ⟨v', Lt', L', rfl, hS3, hL3, hO3⟩
                  obtain ⟨ao3, cap3, rfl, _, _⟩ := hS3.form
                  obtain ⟨n3, hn3⟩ : ∃ n, (withT kind l x).1.length = n := ⟨_, rfl⟩
                  rw [hn3] at hS3
                  rw [HW.out, hn3]
                  have HN3 := Lib.hid hn3
                  clear hn3
                  gi_wp2
                  exact ⟨⟨k + 1, by omega, by go_num, Lb', Lib.hid (by rw [partO_succ, HNext.out, List.append_nil]; exact HK.out), Lib.hid ⟨vo', Lo', HSo.out, (hO3.right.tail.junk _)⟩⟩, by simp [intOf]; omega⟩
                | true =>
                  have HNext := Lib.hid (show restO kind xs f o (0 : Int) l k = allO kind xs f (o ++ [(k : Int)]) ((0 : Int) - openN x) (withT kind l x).1 by unfold restO nextO; rw [if_neg (by rw [hc]; simp), hxd, if_neg (by rw [hlb]; simp), if_pos hw])
                  have HW := Lib.hid hw
                  have hno : (k : Int) ∉ o := by intro hm; rw [List.contains_iff_mem.2 hm] at hc; cases hc
                  have HNO := Lib.hid hno
                  have hok := openN_cases x
                  have hol := HOL.out
                  have HTP := Lib.hid (show (pre ++ partO kind xs f o (0 : Int) l k) ++ allO kind xs f (o ++ [(k : Int)]) ((0 : Int) - openN x) (withT kind l x).1 <+: T by
                    rw [← HNext.out, List.append_assoc, ← partO_succ]
                    exact List.IsPrefix.trans ((List.prefix_append_right_inj _).2 (partO_pre (by rw [HNX.out]; omega))) HT.out)
                  have HKS2 := Lib.hid (show ∀ j ∈ o ++ [(k : Int)], 0 ≤ j ∧ j < xs.length from fun j hj => by
                    rcases List.mem_append.1 hj with h | h
                    · exact HKS.out j h
                    · simp at h; subst h; rw [HNX.out]; omega)
                  have HND2 := Lib.hid (show (o ++ [(k : Int)]).Nodup from by
                    rw [List.nodup_append]; exact ⟨HND.out, by simp, fun a ha b hb => by simp at hb; subst hb; intro e; subst e; exact hno ha⟩)
                  have HWL := Lib.hid (withT_len kind l x)
                  clear hAt hO' hOC hSo' hc hx hxd hlb hw hno
                  gi_wp2
                  refine ⟨trivial, fun h => (by cases h), (callsIn_wide.2 HLATE.out).mono ?_⟩
                  rintro e w2 ⟨rfl, hO2⟩
                  obtain ⟨c0, c1, c2, c3, c4, c5⟩ := cells6 (hO2.get (wr.heap.size, ob6 x) (by simp))
                  simp only [Nat.zero_add] at c1 c2 c3 c4 c5
                  obtain ⟨t0, t1⟩ := tz (hO2.get (w.heap.size, obT kind v) (by simp))
                  have HO2 := Lib.hid hO2
                  clear hO2
                  gi_wp2
                  refine ⟨trivial, fun h => (by cases h), (callsIn_wide.2 (with69 B w0 _ kind l v Lt x _ HS.out HL2.out HO2.out hl2)).mono ?_⟩
                  rintro e w3 ⟨v', Lt', L', rfl, hS3, hL3, hO3⟩
                  obtain ⟨ao3, cap3, rfl, _, _⟩ := hS3.form
                  obtain ⟨n3, hn3⟩ : ∃ n, (withT kind l x).1.length = n := ⟨_, rfl⟩
                  rw [hn3] at hS3
                  rw [HW.out, hn3]
                  have HN3 := Lib.hid hn3
                  clear hn3
                  have HX4 := Lib.hid (show Sx B w0 (Lb' ++ (L' ++ ((w3.heap.size, obT kind (.slice ao3 n3 cap3)) :: (w.heap.size, obT kind v) :: G))) (.slice (some ⟨gl, ol, none⟩) N cap) N o (0 : Int) S J _ from ⟨vo', Lo', HSo.out, goes_sh (hO3.allocAt (obT kind (.slice ao3 n3 cap3)) (n := w3.heap.size) rfl)⟩)
                  have HR4 := Lib.hid (show RdA B w0 (L' ++ ((w3.heap.size, obT kind (.slice ao3 n3 cap3)) :: (w.heap.size, obT kind v) :: G)) (.slice (some ⟨gl, ol, none⟩) N cap) xs from fun w' hw' => HR.out w' hw'.right.tail.tail)
                  have HS3 := Lib.hid hS3
                  have HL3 := Lib.hid (show ∀ p ∈ Lt', p ∈ L' ++ ((w3.heap.size, obT kind (.slice ao3 n3 cap3)) :: (w.heap.size, obT kind v) :: G) from fun p hp => by
                    rcases List.mem_append.1 (hL3 p hp) with h | h
                    · exact List.mem_append_left _ h
                    · exact List.mem_append_right _ (List.mem_cons_of_mem _ (List.mem_cons_of_mem _ (HLt.out p h))))
                  clear hO3 hS3 hL3 c0 c1 c2 c3 c4 c5 t0 t1 s0 s1 s2 s3 jc e0 e1 e2 e3 e4 e5
                  gi_wp2
                  refine ⟨trivial, fun h => (by cases h), (callsIn_wide.2 (push70 B w0 _ xs _ N o (0 : Int) S J k x _ HR4.out.more HX4.out HNX.out.symm hx2.out (by omega) (by omega))).mono ?_⟩
                  rintro e w5 ⟨rfl, hX5⟩
                  obtain ⟨vo5, Lo5, hS5, hO5⟩ := hX5
                  obtain ⟨n0, n1⟩ := tz (hO5.get (w3.heap.size, obT kind (.slice ao3 n3 cap3)) (by simp))
                  have HX5 := Lib.hid (show Sx B w0 _ _ N _ _ S J w5 from ⟨vo5, Lo5, hS5, hO5⟩)
                  clear hO5 hS5
                  gi_wp2
                  refine ⟨trivial, fun h => (by cases h), (callsIn_wide.2 (callsIn_wide.1 (HIH.out (o ++ [(k : Int)]) ((0 : Int) - openN x) (withT kind l x).1 (.slice ao3 n3 cap3) Lt' _ Lb' (pre ++ partO kind xs f o (0 : Int) l k) w5 (by simp; omega) HKS2.out HND2.out (by simp; omega) (by have := HWL.out; simp; omega) HTP.out HR4.out HS3.out HL3.out HK.out HX5.out))).mono ?_⟩
                  rintro e w6 (⟨rfl, Lb6, hK6, hX6⟩ | ⟨rfl, q, Lb6, hq, hKx6, hX6⟩)
                  · have HX6 := Lib.hid hX6
                    have HK6 := Lib.hid hK6
                    clear hX6 hK6 n0 n1
                    gi_wp2
                    refine ⟨trivial, fun h => (by cases h), (callsIn_wide.2 (pop75 B w0 _ xs _ N o ((0 : Int) - openN x) S J k x _ HR4.out.more HX6.out HNX.out.symm hx2.out HNO.out (by omega) (by omega))).mono ?_⟩
                    rintro e w7 ⟨rfl, hX7⟩
                    rw [Int.sub_add_cancel] at hX7
                    have HX7 := Lib.hid hX7
                    clear hX7
                    gi_wp2
                    exact ⟨⟨k + 1, by omega, by go_num, Lb6, Lib.hid (by rw [partO_succ, HNext.out, ← List.append_assoc]; exact HK6.out), Lib.hid (goes_x HX7.out)⟩, by simp [intOf]; omega⟩
                  · have HX6 := Lib.hid hX6
                    have HK6 := Lib.hid hKx6
                    have HQ := Lib.hid hq
                    clear hX6 hKx6 n0 n1 hq
                    gi_wp2
                    refine ⟨trivial, fun h => (by cases h), (callsIn_wide.2 (pop75 B w0 _ xs _ N o ((0 : Int) - openN x) S J k x _ HR4.out.more HX6.out HNX.out.symm hx2.out HNO.out (by omega) (by omega))).mono ?_⟩
                    rintro e w7 ⟨rfl, hX7⟩
                    rw [Int.sub_add_cancel] at hX7
                    have HX7 := Lib.hid hX7
                    clear hX7
                    gi_wp2
                    rw [Exit.noGoto_ret]
                    refine bodyPost_ret (results_tmp rfl _ _ _) rfl ?_
                    refine .inr ⟨rfl, partO kind xs f o (0 : Int) l k ++ q, Lb6, ?_, by rw [← List.append_assoc]; exact HK6.out, goes_y HX7.out⟩
                    refine List.IsPrefix.trans ?_ (partO_pre (k := k + 1) (by rw [HNX.out]; omega))
                    rw [partO_succ, HNext.out]
                    exact (List.prefix_append_right_inj _).2 HQ.out
          · obtain rfl : k = N := by omega
            gi_wp2
            rw [Exit.noGoto_ret]
            refine bodyPost_ret (results_tmp rfl _ _ _) rfl ?_
            exact .inl ⟨rfl, Lb', by rw [allO_succ, HNX.out]; exact HK.out, goes_z HX.out⟩
      · have HX0 := Lib.hid (goes_z (t := (w.heap.size, obT kind v)) (show Sx B w0 ((w.heap.size, obT kind v) :: (Lb2 ++ G)) (.slice ao N cap) N o 0 S J _ from ⟨vo, Lo, HSo.out, goes_d hO2⟩))
        have HK2 := Lib.hid hKx2
        clear hO2 hKx2 hy HOT
        gi_wp2
        rw [Exit.noGoto_ret]
        refine bodyPost_ret (results_tmp rfl _ _ _) rfl ?_
        exact .inr ⟨rfl, [o], Lb2, by rw [allO_succ, HH.out]; exact List.prefix_append _ _, HK2.out, HX0.out⟩
    · have hzb : (op == 0) = false := by simp [hz]
      have HH := Lib.hid (show headO o op = [] by unfold headO; rw [if_neg hz])
      clear hz
      refine callsIn_of_wp Try.func61 rfl trivial ?_ rfl
      simp only [Try.ntmps61, List.size_toArray, List.length_cons, List.length_nil, Nat.reduceAdd, Nat.reduceSub, Array.replicate_succ, Array.replicate_zero, List.push_toArray, List.append_toArray, List.nil_append, List.cons_append]
      gi_wp2
      refine wpIn_scope_wide ?_
      gi_wp2
      refine ⟨trivial, ?_⟩
      gi_wp2
      refine ⟨fun _ h => (by cases h), ?_⟩
      gi_wp2
      refine wpIn_label ?_
      gi_wp2
      gi_loopw [7, 8, 9, 10, 11, 32] (fun _ _ _ _ _ i wr => ∃ k : Nat, k ≤ N ∧ i = .int .i64 k ∧ ∃ Lb', Hid (K (pre ++ partO kind xs f o op l k) Lb') ∧ Hid (Sx B w0 ((w.heap.size, obT kind v) :: (Lb' ++ G)) (.slice ao N cap) N o op S J wr)) (fun _ _ _ _ _ i _ => N - (intOf i).toNat)
      case atStart => exact ⟨0, Nat.zero_le _, rfl, Lb, Lib.hid (by simpa [partO, HH.out] using HK0.out), HX0⟩
      case round =>
        obtain ⟨k, hk, rfl, Lb', HK, HX⟩ := hrel
        by_cases hlt : k < N
        · obtain ⟨vo', Lo', hSo', hO'⟩ := HX.out
          obtain ⟨x, hx⟩ : ∃ x, xs[k]? = some x := ⟨xs[k]'(by rw [HNX.out]; exact hlt), List.getElem?_eq_getElem _⟩
          have hxd : xs.getD k default = x := by simp [hx]
          obtain ⟨gl, ol, cl, he, hAt⟩ := rda_at HR.out hO'.tail.tail.right.tail.right HNX.out.symm hx
          simp only [Value.slice.injEq, true_and] at he
          obtain ⟨rfl, rfl⟩ := he
          obtain ⟨hgl, e0, e1, e2, e3, e4, e5⟩ := hAt _ hO'.tail.tail.right.tail.right
          have hgl2 : gl < wr.heap.size := hgl
          obtain ⟨s0, s1, s2, s3⟩ := s4 hO'.head
          have sl := lt_of_get hO'.head
          have jc : wr.cell? ⟨J, k, none⟩ = some (.bool (o.contains (k : Int))) := (cell_of_get hO'.tail.head k).trans (arrJ_get o hlt)
          have jl := lt_of_get hO'.tail.head
          have ik : (k : Int) < N := by omega
          have ik0 : (0 : Int) ≤ k := by omega
          have hOC := hO'.allocAt (ob6 x) (n := wr.heap.size) rfl
          have HSo := Lib.hid hSo'
          have HOC := Lib.hid hOC
          cases hc : o.contains (k : Int) with
          | true =>
            have HNext := Lib.hid (show restO kind xs f o op l k = [] by unfold restO nextO; rw [if_pos hc])
            rw [hc] at jc
            clear hAt hO' hOC hSo' hc hx hxd
            gi_wp2
            refine ⟨trivial, ?_⟩
            gi_wp2
            exact ⟨⟨k + 1, by omega, by go_num, Lb', Lib.hid (by rw [partO_succ, HNext.out, List.append_nil]; exact HK.out), Lib.hid ⟨vo', Lo', HSo.out, HOC.out.tail⟩⟩, by simp [intOf]; omega⟩
          | false =>
            rw [hc] at jc
            have HLATE := Lib.hid (late68 B w0 _ xs _ o vo' S k x _ (HR.out _ hOC.tail.tail.tail.right.tail.right) (sl_rd6 hSo' (fun p hp => hOC.get p (by simp [hp]))) hOC (s4 hOC.tail.head).1 (s4 hOC.tail.head).2.2.1 hx HKS.out HCAP.out (by have := HOL.out; omega))
            have hx2 := Lib.hid hx
            cases hlb : lateB xs x o with
            | true =>
              have HNext := Lib.hid (show restO kind xs f o op l k = [] by unfold restO nextO; rw [if_neg (by rw [hc]; simp), hxd, if_pos hlb])
              rw [hlb] at HLATE
              clear hAt hO' hOC hSo' hc hx hxd hlb
              gi_wp2
              refine ⟨trivial, fun h => (by cases h), (callsIn_wide.2 HLATE.out).mono ?_⟩
              rintro e w2 ⟨rfl, hO2⟩
              gi_wp2
              exact ⟨⟨k + 1, by omega, by go_num, Lb', Lib.hid (by rw [partO_succ, HNext.out, List.append_nil]; exact HK.out), Lib.hid ⟨vo', Lo', HSo.out, hO2.tail⟩⟩, by simp [intOf]; omega⟩
            | false =>
              rw [hlb] at HLATE
              have hl2 : l.length ≤ 100000 := by have := HOL.out; omega
              have HL2 := Lib.hid (show ∀ p ∈ Lt, p ∈ (wr.heap.size, ob6 x) :: ((S, obS (.slice (some ⟨gl, ol, none⟩) N cap) J N vo' op) :: (J, obJ N o) :: (Lo' ++ ((w.heap.size, obT kind v) :: (Lb' ++ G)))) from fun p hp => by simp [HLt.out p hp])
              cases hw : (withT kind l x).2 with
              | false =>
                have HNext := Lib.hid (show restO kind xs f o op l k = [] by unfold restO nextO; rw [if_neg (by rw [hc]; simp), hxd, if_neg (by rw [hlb]; simp), if_neg (by rw [hw]; simp)])
                have HW := Lib.hid hw
                clear hAt hO' hOC hSo' hc hx hxd hlb hw
                gi_wp2
                refine ⟨trivial, fun h => (by cases h), (callsIn_wide.2 HLATE.out).mono ?_⟩
                rintro e w2 ⟨rfl, hO2⟩
                obtain ⟨c0, c1, c2, c3, c4, c5⟩ := cells6 (hO2.get (wr.heap.size, ob6 x) (by simp))
                simp only [Nat.zero_add] at c1 c2 c3 c4 c5
                obtain ⟨t0, t1⟩ := tz (hO2.get (w.heap.size, obT kind v) (by simp))
                have HO2 := Lib.hid hO2
                clear hO2
                gi_wp2
                refine ⟨trivial, fun h => (by cases h), (callsIn_wide.2 (with69 B w0 _ kind l v Lt x _ HS.out HL2.out HO2.out hl2)).mono ?_⟩
                rintro e w3 ⟨v', Lt', L', rfl, hS3, hL3, hO3⟩
                obtain ⟨ao3, cap3, rfl, _, _⟩ := hS3.form
                obtain ⟨n3, hn3⟩ : ∃ n, (withT kind l x).1.length = n := ⟨_, rfl⟩
                rw [hn3] at hS3
                rw [HW.out, hn3]
                have HN3 := Lib.hid hn3
                clear hn3
                gi_wp2
                exact ⟨⟨k + 1, by omega, by go_num, Lb', Lib.hid (by rw [partO_succ, HNext.out, List.append_nil]; exact HK.out), Lib.hid ⟨vo', Lo', HSo.out, (hO3.right.tail.junk _)⟩⟩, by simp [intOf]; omega⟩
              | true =>
                have HNext := Lib.hid (show restO kind xs f o op l k = allO kind xs f (o ++ [(k : Int)]) (op - openN x) (withT kind l x).1 by unfold restO nextO; rw [if_neg (by rw [hc]; simp), hxd, if_neg (by rw [hlb]; simp), if_pos hw])
                have HW := Lib.hid hw
                have hno : (k : Int) ∉ o := by intro hm; rw [List.contains_iff_mem.2 hm] at hc; cases hc
                have HNO := Lib.hid hno
                have hok := openN_cases x
                have hol := HOL.out
                have HTP := Lib.hid (show (pre ++ partO kind xs f o op l k) ++ allO kind xs f (o ++ [(k : Int)]) (op - openN x) (withT kind l x).1 <+: T by
                  rw [← HNext.out, List.append_assoc, ← partO_succ]
                  exact List.IsPrefix.trans ((List.prefix_append_right_inj _).2 (partO_pre (by rw [HNX.out]; omega))) HT.out)
                have HKS2 := Lib.hid (show ∀ j ∈ o ++ [(k : Int)], 0 ≤ j ∧ j < xs.length from fun j hj => by
                  rcases List.mem_append.1 hj with h | h
                  · exact HKS.out j h
                  · simp at h; subst h; rw [HNX.out]; omega)
                have HND2 := Lib.hid (show (o ++ [(k : Int)]).Nodup from by
                  rw [List.nodup_append]; exact ⟨HND.out, by simp, fun a ha b hb => by simp at hb; subst hb; intro e; subst e; exact hno ha⟩)
                have HWL := Lib.hid (withT_len kind l x)
                clear hAt hO' hOC hSo' hc hx hxd hlb hw hno
                gi_wp2
                refine ⟨trivial, fun h => (by cases h), (callsIn_wide.2 HLATE.out).mono ?_⟩
                rintro e w2 ⟨rfl, hO2⟩
                obtain ⟨c0, c1, c2, c3, c4, c5⟩ := cells6 (hO2.get (wr.heap.size, ob6 x) (by simp))
                simp only [Nat.zero_add] at c1 c2 c3 c4 c5
                obtain ⟨t0, t1⟩ := tz (hO2.get (w.heap.size, obT kind v) (by simp))
                have HO2 := Lib.hid hO2
                clear hO2
                gi_wp2
                refine ⟨trivial, fun h => (by cases h), (callsIn_wide.2 (with69 B w0 _ kind l v Lt x _ HS.out HL2.out HO2.out hl2)).mono ?_⟩
                rintro e w3 ⟨v', Lt', L', rfl, hS3, hL3, hO3⟩
                obtain ⟨ao3, cap3, rfl, _, _⟩ := hS3.form
                obtain ⟨n3, hn3⟩ : ∃ n, (withT kind l x).1.length = n := ⟨_, rfl⟩
                rw [hn3] at hS3
                rw [HW.out, hn3]
                have HN3 := Lib.hid hn3
                clear hn3
                have HX4 := Lib.hid (show Sx B w0 (Lb' ++ (L' ++ ((w3.heap.size, obT kind (.slice ao3 n3 cap3)) :: (w.heap.size, obT kind v) :: G))) (.slice (some ⟨gl, ol, none⟩) N cap) N o op S J _ from ⟨vo', Lo', HSo.out, goes_sh (hO3.allocAt (obT kind (.slice ao3 n3 cap3)) (n := w3.heap.size) rfl)⟩)
                have HR4 := Lib.hid (show RdA B w0 (L' ++ ((w3.heap.size, obT kind (.slice ao3 n3 cap3)) :: (w.heap.size, obT kind v) :: G)) (.slice (some ⟨gl, ol, none⟩) N cap) xs from fun w' hw' => HR.out w' hw'.right.tail.tail)
                have HS3 := Lib.hid hS3
                have HL3 := Lib.hid (show ∀ p ∈ Lt', p ∈ L' ++ ((w3.heap.size, obT kind (.slice ao3 n3 cap3)) :: (w.heap.size, obT kind v) :: G) from fun p hp => by
                  rcases List.mem_append.1 (hL3 p hp) with h | h
                  · exact List.mem_append_left _ h
                  · exact List.mem_append_right _ (List.mem_cons_of_mem _ (List.mem_cons_of_mem _ (HLt.out p h))))
                clear hO3 hS3 hL3 c0 c1 c2 c3 c4 c5 t0 t1 s0 s1 s2 s3 jc e0 e1 e2 e3 e4 e5
                gi_wp2
                refine ⟨trivial, fun h => (by cases h), (callsIn_wide.2 (push70 B w0 _ xs _ N o op S J k x _ HR4.out.more HX4.out HNX.out.symm hx2.out (by omega) (by omega))).mono ?_⟩
                rintro e w5 ⟨rfl, hX5⟩
                obtain ⟨vo5, Lo5, hS5, hO5⟩ := hX5
                obtain ⟨n0, n1⟩ := tz (hO5.get (w3.heap.size, obT kind (.slice ao3 n3 cap3)) (by simp))
                have HX5 := Lib.hid (show Sx B w0 _ _ N _ _ S J w5 from ⟨vo5, Lo5, hS5, hO5⟩)
                clear hO5 hS5
                gi_wp2
                refine ⟨trivial, fun h => (by cases h), (callsIn_wide.2 (callsIn_wide.1 (HIH.out (o ++ [(k : Int)]) (op - openN x) (withT kind l x).1 (.slice ao3 n3 cap3) Lt' _ Lb' (pre ++ partO kind xs f o op l k) w5 (by simp; omega) HKS2.out HND2.out (by simp; omega) (by have := HWL.out; simp; omega) HTP.out HR4.out HS3.out HL3.out HK.out HX5.out))).mono ?_⟩
                rintro e w6 (⟨rfl, Lb6, hK6, hX6⟩ | ⟨rfl, q, Lb6, hq, hKx6, hX6⟩)
                · have HX6 := Lib.hid hX6
                  have HK6 := Lib.hid hK6
                  clear hX6 hK6 n0 n1
                  gi_wp2
                  refine ⟨trivial, fun h => (by cases h), (callsIn_wide.2 (pop75 B w0 _ xs _ N o (op - openN x) S J k x _ HR4.out.more HX6.out HNX.out.symm hx2.out HNO.out (by omega) (by omega))).mono ?_⟩
                  rintro e w7 ⟨rfl, hX7⟩
                  rw [Int.sub_add_cancel] at hX7
                  have HX7 := Lib.hid hX7
                  clear hX7
                  gi_wp2
                  exact ⟨⟨k + 1, by omega, by go_num, Lb6, Lib.hid (by rw [partO_succ, HNext.out, ← List.append_assoc]; exact HK6.out), Lib.hid (goes_x HX7.out)⟩, by simp [intOf]; omega⟩
                · have HX6 := Lib.hid hX6
                  have HK6 := Lib.hid hKx6
                  have HQ := Lib.hid hq
                  clear hX6 hKx6 n0 n1 hq
                  gi_wp2
                  refine ⟨trivial, fun h => (by cases h), (callsIn_wide.2 (pop75 B w0 _ xs _ N o (op - openN x) S J k x _ HR4.out.more HX6.out HNX.out.symm hx2.out HNO.out (by omega) (by omega))).mono ?_⟩
                  rintro e w7 ⟨rfl, hX7⟩
                  rw [Int.sub_add_cancel] at hX7
                  have HX7 := Lib.hid hX7
                  clear hX7
                  gi_wp2
                  rw [Exit.noGoto_ret]
                  refine bodyPost_ret (results_tmp rfl _ _ _) rfl ?_
                  refine .inr ⟨rfl, partO kind xs f o op l k ++ q, Lb6, ?_, by rw [← List.append_assoc]; exact HK6.out, goes_y HX7.out⟩
                  refine List.IsPrefix.trans ?_ (partO_pre (k := k + 1) (by rw [HNX.out]; omega))
                  rw [partO_succ, HNext.out]
                  exact (List.prefix_append_right_inj _).2 HQ.out
        · obtain rfl : k = N := by omega
          gi_wp2
          rw [Exit.noGoto_ret]
          refine bodyPost_ret (results_tmp rfl _ _ _) rfl ?_
          exact .inl ⟨rfl, Lb', by rw [allO_succ, HNX.out]; exact HK.out, goes_z HX.out⟩

end Go.Proofs.Ytojcojoleodjmaa
