/-
  Lemmas and contracts, joined: Tlaw Post Open Post2 Topen.
-/
import Derived.Test.YtliiclmhpphpmaaGreatDoorPf2
import Derived.Test.YtliiclmhpphpmaaGreatDoorPf7
import Derived.Test.YtliiclmhpphpmaaGreatDoorPf8
import Derived.Test.YtliiclmhpphpmaaGreatDoorPf3
import Derived.Test.YtliiclmhpphpmaaGreatDoorRows
import Derived.WalkKit
import Derived.ProofKit
import Derived.OpenShut
import Derived.Below
import Derived.ChangeSame
import Derived.Test.YtliiclmhpphpmaaGreatDoorPf1
import Derived.Carry
import Derived.Deep.Slices
import Derived.Deep.Fields
import Derived.Lib.SmallJoins
import Derived.DataReads
import Derived.Test.YtliiclmhpphpmaaGreatDoorCards
import Derived.Test.YtliiclmhpphpmaaGreatDoorTie
import Derived.Lib.LaidU8
import Derived.LaidMore
import Derived.Lay
import Derived.Stop.Joined
import Derived.SevenTiedAt
namespace Go.Proofs.YtliiclmhpphpmaaGreatDoor
open Go Go.RowKit
def NetM (M : Nat) (V : Value) (B : List Gate) (w : World) : Prop := ∃ A c D vs, V = .slice A B.length c ∧ w.ownsRow 0 73 3 V B.length (gcells B vs) ∧ Ins D B vs w ∧ (∀ k, D k → k < M) ∧ ∀ k, V.ownBlock = some k → k < M
theorem netM_holds {w : World} {A : Option Addr} {c : Nat} {B : List Gate} {D : Nat → Prop} {vs : List Value} (h1 : w.ownsRow 0 73 3 (.slice A B.length c) B.length (gcells B vs)) (h2 : Ins D B vs w) (h3 : ∀ k, D k → k < w.heap.size) : (En.ro (fun k => k < w.heap.size) (NetM w.heap.size (.slice A B.length c) B)).holds w :=
 ⟨⟨A, c, D, vs, rfl, h1, h2, h3, fun k hk => (World.ownsRow.lt h1 k hk).2⟩, fun k hk => hk, fun w1 w2 _ hk ⟨A', c', D', vs', q1, q2, q3, q4, q5⟩ => ⟨A', c', D', vs', q1, zEg q2 (fun k h => hk k (q5 k h)), q3.move (fun k h => hk k (q4 k h)), q4, q5⟩⟩
theorem NetM.gates {M : Nat} {V : Value} {B : List Gate} {w : World} (h : NetM M V B w) (hM : ∀ k, k < M → k < w.heap.size) : GatesV w w.heap.size V B := by
 obtain ⟨A, c, D, vs, rfl, q2, q3, q4, _⟩ := h
 exact zId q2 q3 (fun k hk => hM k (q4 k hk))
section
variable {Z : Bool → Nat → Prop} {w0 W : World} {LL : List En}
theorem Own.blkro {g : Nat} {T : TypeId} {cs : Array Value} (h : Own Z w0 W (.blk g T cs :: LL)) : Own Z w0 W (.ro (fun k => k = g) (fun w => Blk w g T cs) :: LL) :=
 h.as (e' := .ro (fun k => k = g) (fun w => Blk w g T cs)) ⟨h.blk 0 rfl, fun k hk => by have : k = g := hk; rw [this]; exact (h.blk 0 rfl).lt, fun w1 w2 _ hk q => (hk g rfl).trans q⟩ (fun k hk => hk) (fun ho => ho.elim)
theorem Own.rowro {v : Value} {T : TypeId} {sz n : Nat} {xs : List Value} (h : Own Z w0 W (.row v T sz n xs :: LL)) : Own Z w0 W (.ro (fun k => v.ownBlock = some k) (fun w => w.ownsRow 0 T sz v n xs) :: LL) :=
 h.as (e' := .ro (fun k => v.ownBlock = some k) (fun w => w.ownsRow 0 T sz v n xs)) ⟨h.row 0 rfl, fun k hk => (World.ownsRow.lt (h.row 0 rfl) k hk).2, fun w1 w2 _ hk q => zEg q (fun k h => hk k h)⟩ (fun k hk => hk) (fun ho => ho.elim)
end
theorem all_next {fs : List (List TN)} {i : Nat} {ts : List TN} {n : Int} (hx : fs[i]? = some ts) (h : ∀ ts ∈ fs.take i, chkT ts n = 0 ∧ ts.length ≤ 30) (h2 : chkT ts n = 0 ∧ ts.length ≤ 30) : ∀ ts ∈ fs.take (i + 1), chkT ts n = 0 ∧ ts.length ≤ 30 := fun t ht => by
 rw [List.take_add_one, hx] at ht
 rcases List.mem_append.1 ht with q | q
 ·exact h t q
 ·simp at q; rw [q]; exact h2
theorem asg_sub6 : ∀ N : Nat, N ≤ 6 → ∀ j, j < 2 ^ N → (asg j).sub (VS.all (N : Int)) = true := by decide +kernel
theorem asg_sub {N j : Nat} (hN : N ≤ 6) (hj : j < 2 ^ N) : (asg j).sub (VS.all (N : Int)) = true := asg_sub6 N hN j hj
theorem net_small {N : Nat} (hN : N ≤ 6) {B : List Gate} (hw : WfN (N : Int) B) (hp : 0 < B.length) : Small (own B ((B.length - 1 : Nat) : Int)) := fun v hv => by
 have := zI0 hw (B.length) ((B.length - 1 : Nat) : Int) (by omega) ⟨by omega, by omega⟩ v hv
 omega
theorem count_le (p : Nat → Bool) (j : Nat) : (List.range j).countP p ≤ j := by
 have := List.countP_le_length (p := p) (l := List.range j)
 simpa using this
theorem count_succ (p : Nat → Bool) (j : Nat) : (List.range (j + 1)).countP p = (List.range j).countP p + if p j then 1 else 0 := by
 rw [List.range_succ, List.countP_append]
 simp [List.countP_cons]
theorem forest_size {fs : List (List TN)} {n : Int} (h0 : 0 ≤ n) (h1 : n ≤ 128) (hall : ∀ ts ∈ fs, chkT ts n = 0 ∧ ts.length ≤ 30) (hlen : fs.length ≤ 5) : sizeOf (forestG fs) ≤ 4611686018427387904 := by
 have := (zEq (forest_ck h0 h1 hall hlen)).2.2.2.2
 omega
section
variable {W : World} {V : Value} {B : List Gate} {N m a : Nat} {r : Bool}
theorem zIq (hG : GatesV W W.heap.size V B) (hw : WfN (N : Int) B) (hp : 0 < B.length) (hlen : B.length ≤ 65536) (hN0 : 0 ≤ (N : Int)) (hN1 : (N : Int) ≤ 128) (hm : m < 2 ^ 64) (hr : nv B (asg m) ((B.length - 1 : Nat) : Int) = r) : Calls Tryz.prog 11 #[.agg #[.int .i64 (N : Int), V], .agg #[.int .u64 (m : Int), .int .u64 0]] W fun e w' => e = .returned (.bool r) ∧ Below W.heap.size W w' := by
 have h := neval_ hG hw hp hlen hN0 hN1 (asg m)
 rw [asg_a hm, hr] at h
 exact h
theorem biasb_ (hG : GatesV W W.heap.size V B) (hw : WfN (N : Int) B) (hp : 0 < B.length) (hlen : B.length ≤ 65536) (hN0 : 0 ≤ (N : Int)) (hN1 : (N : Int) ≤ 128) (hT : TabT W) (hsm : Small (own B ((B.length - 1 : Nat) : Int))) (P : VS) (ha : a < 2 ^ 64) (hsub : (asg a).sub (VS.all (N : Int)) = true) :
  Calls Tryz.prog 9 #[.agg #[.int .i64 (N : Int), V], .agg #[.int .u64 (a : Int), .int .u64 0], .agg #[.int .u64 (P.a.toNat : Int), .int .u64 (P.b.toNat : Int)]] W fun e w' => e = .returned (.tuple #[.bool (biasR B (asg a) P), .int .i64 0]) ∧ Below W.heap.size W w' := by
 have h := biased0_ hG hw hp hlen hN0 hN1 hT hsm (a := asg a) P hsub
 rw [asg_a ha] at h
 exact h
end
set_option maxHeartbeats 4000000 in
theorem topForests_ok {W : World} {DF : Nat → Prop} {V : Value} {fs : List (List TN)} (hF : ForestD DF W V fs) (hD : ∀ k, DF k → k < W.heap.size) (tab : Tab W) (hTT : TabT W) (n : Int) (s2 P : VS) (hn0 : -9223372036854775808 ≤ n) (hn1 : n ≤ 9223372036854775807) :
  Calls Tryz.prog 3 #[V, .int .i64 n, .agg #[.int .u64 (s2.a.toNat : Int), .int .u64 (s2.b.toNat : Int)], .agg #[.int .u64 (P.a.toNat : Int), .int .u64 (P.b.toNat : Int)]] W fun e w' => e = .returned (.bool true) ∧ Below W.heap.size W w' := by
 obtain ⟨A, cf, rfl⟩ := hF.slice
 have hfl : fs.length ≤ 9223372036854775807 := by
  obtain ⟨A', c', q1, q2, q3, _⟩ := id hF
  unfold maxLen at q3
  omega
 have O0 := (((Own.start W).oldro (D := TabE) (p := TabT) (zB7 hTT)).oldro (D := TabD) (p := Tab) (zEu tab)).oldro (D := DF) (p := (fun w => ForestD DF w (.slice A fs.length cf) fs)) ⟨hF, hD, fun _ _ _ hk h => h.move hk⟩
 refine zAu (args := [.slice A fs.length cf, .int .i64 n, .agg #[.int .u64 (s2.a.toNat : Int), .int .u64 (s2.b.toNat : Int)], .agg #[.int .u64 (P.a.toNat : Int), .int .u64 (P.b.toNat : Int)]]) Tryz.func3 rfl rfl (by simp) ?_
 refine zAc fun _ K1 => zAa ?_
 obtain ⟨g2, w3, r4, O5, hg6, hs7⟩ := zA5 O0 25 (.agg #[.int .u64 (s2.a.toNat : Int), .int .u64 (s2.b.toNat : Int)]) rfl
 refine zAe (v := VP g2) (fun ρ e => r4 ρ _ _ _ _ _ _ (e _ _ rfl)) rfl rfl ?_
 obtain ⟨g8, w9, r10, O11, hg12, hs13⟩ := zA5 O5 25 (.agg #[.int .u64 (P.a.toNat : Int), .int .u64 (P.b.toNat : Int)]) rfl
 refine zAe (v := VP g8) (fun ρ e => r10 ρ _ _ _ _ _ _ (e _ _ rfl)) rfl rfl <| wa rfl rfl rfl <| zAd <| zAb K1 <| zAc fun _ K14 => zAc fun _ K15 => zAa <| wm rfl rfl rfl ?_
 refine wz el22 rfl rfl rfl ?_
 by_cases c16 : ((fs.length : Nat) : Int) > 5
 ·skip
  refine wc rfl rfl (gtr1 (by omega)) rfl rfl <| wm rfl rfl rfl <| zAq rfl rfl <| zAq rfl rfl <| zAe (v := .bool true) (fun ρ e => zBa (e _ _ rfl) (e _ _ rfl)) rfl rfl <| wm rfl rfl rfl <| zAq rfl rfl <| zAq rfl rfl ?_
  refine zAe (v := .bool true) (fun ρ e => zBa (e _ _ rfl) (e _ _ rfl)) rfl rfl <| zAd <| zAb K15 <| zAl rfl <| zAc fun _ K17 => zAa ?_
  refine zAs (args := []) in_4 rfl rfl rfl ?_
  refine (zHr w9).mono ?_
  rintro _ w18 ⟨rfl, hb19⟩
  have O20 := O11.below hb19
  refine ⟨_, rfl, ?_⟩
  refine wa rfl rfl rfl <| zAd <| zAb K17 <| zAz ?_
  refine zAg (by intro h; cases h) ?_
  refine zAy (v := .bool true) (fun T hT => res1 rfl T _ (hT 8 _ rfl)) ?_
  exact ⟨rfl, O20.old⟩
 ·skip
  refine wc rfl rfl (gtr0 (by omega)) rfl rfl <| wm rfl rfl rfl <| wm rfl rfl rfl ?_
  by_cases c21 : n < 0
  ·skip
   refine wc rfl rfl (lss1 (by omega)) rfl rfl <| zAe (v := .bool true) (fun ρ e => zA2 (e _ _ rfl) (e _ _ rfl)) rfl rfl <| wm rfl rfl rfl <| zAq rfl rfl <| zAq rfl rfl <| zAe (v := .bool true) (fun ρ e => zBa (e _ _ rfl) (e _ _ rfl)) rfl rfl <| zAd <| zAb K15 ?_
   refine zAl rfl <| zAc fun _ K22 => zAa ?_
   refine zAs (args := []) in_4 rfl rfl rfl ?_
   refine (zHr w9).mono ?_
   rintro _ w23 ⟨rfl, hb24⟩
   have O25 := O11.below hb24
   refine ⟨_, rfl, ?_⟩
   refine wa rfl rfl rfl <| zAd <| zAb K22 <| zAz ?_
   refine zAg (by intro h; cases h) ?_
   refine zAy (v := .bool true) (fun T hT => res1 rfl T _ (hT 8 _ rfl)) ?_
   exact ⟨rfl, O25.old⟩
  ·skip
   refine wc rfl rfl (lss0 (by omega)) rfl rfl <| zAe (v := .bool false) (fun ρ e => zA2 (e _ _ rfl) (e _ _ rfl)) rfl rfl <| wm rfl rfl rfl <| wm rfl rfl rfl ?_
   by_cases c26 : n > 6
   ·skip
    refine wc rfl rfl (gtr1 (by omega)) rfl rfl <| zAe (v := .bool true) (fun ρ e => zA2 (e _ _ rfl) (e _ _ rfl)) rfl rfl <| zAd <| zAb K15 <| zAl rfl <| zAc fun _ K27 => zAa ?_
    refine zAs (args := []) in_4 rfl rfl rfl ?_
    refine (zHr w9).mono ?_
    rintro _ w28 ⟨rfl, hb29⟩
    have O30 := O11.below hb29
    refine ⟨_, rfl, ?_⟩
    refine wa rfl rfl rfl <| zAd <| zAb K27 <| zAz ?_
    refine zAg (by intro h; cases h) ?_
    refine zAy (v := .bool true) (fun T hT => res1 rfl T _ (hT 8 _ rfl)) ?_
    exact ⟨rfl, O30.old⟩
   ·skip
    obtain ⟨N, rfl⟩ : ∃ N : Nat, n = (N : Int) := ⟨n.toNat, by omega⟩
    have hN6 : N ≤ 6 := by omega
    obtain ⟨p2, hp2e⟩ : ∃ p, p = 2 ^ N := ⟨_, rfl⟩
    have hp2 : p2 ≤ 64 := by rw [hp2e]; exact zG5 hN6
    have hp20 : 0 < p2 := by rw [hp2e]; exact Nat.two_pow_pos _
    obtain ⟨aN, haNe⟩ : ∃ a, a = s2.a.toNat &&& (p2 - 1) := ⟨_, rfl⟩
    have haN : aN < p2 := by have := Nat.and_le_right (n := s2.a.toNat) (m := p2 - 1); omega
    refine wc rfl rfl (gtr0 (by omega)) rfl rfl <| zAe (v := .bool false) (fun ρ e => zA2 (e _ _ rfl) (e _ _ rfl)) rfl rfl <| zAd <| zAb K15 <| zAf rfl <| zAj <| zAb K14 <| zAc fun _ K31 => ?_
    refine zAc fun _ K32 => zAa <| wa rfl rfl rfl <| zAd <| zAb K32 <| zAh ?_
    refine zA8 (ι := Nat) (fun q => [(0, .slice A fs.length cf), (1, .int .i64 (N : Int)), (6, VP g2), (7, VP g8), (9, .int .i64 (q : Int))]) (fun q X => (q ≤ fs.length) ∧ (∀ ts ∈ fs.take q, chkT ts (N : Int) = 0 ∧ ts.length ≤ 30) ∧ Own Z0 W X [.blk g8 25 #[.int .u64 (P.a.toNat : Int), .int .u64 (P.b.toNat : Int)], .blk g2 25 #[.int .u64 (s2.a.toNat : Int), .int .u64 (s2.b.toNat : Int)], .ro DF (fun w => ForestD DF w (.slice A fs.length cf) fs), .ro TabD Tab, .ro TabE TabT]) (fun q => fs.length - q) 0 ⟨Nat.zero_le _, (fun ts h => by simp at h), O11⟩ ⟨rfl, rfl, rfl, rfl, rfl, trivial⟩ (fun q w33 hJ F34 K35 => ?_)
    obtain ⟨i, rfl⟩ : ∃ x, x = q := ⟨_, rfl⟩
    obtain ⟨hi0, hall, O36⟩ := hJ
    try dsimp only at hi0 hall O36 ⊢
    by_cases hi : i < fs.length
    ·skip
     obtain ⟨b, o, cb, hvb, hDb⟩ := hF.form (by omega)
     injection hvb with hA _ hc
     subst hA hc
     obtain ⟨ts, hx⟩ : ∃ x, fs[i]? = some x := ⟨fs[i], List.getElem?_eq_getElem hi⟩
     obtain ⟨u, hu, hT⟩ := hF.at_ hx
     obtain ⟨At, ct, rfl⟩ := hT.slice
     refine zAc fun _ K37 => zAc fun _ K38 => zAa <| wm rfl rfl rfl <| wm rfl rfl rfl <| wz el22 rfl rfl rfl <| wc rfl rfl (lss1 (by omega)) rfl rfl <| zAd ?_
     refine zAb K38 <| zAl rfl <| zAj <| zAb K37 <| zAc fun _ K39 => zAh <| zAc fun _ K40 => zAa ?_
     refine wm rfl rfl rfl <| wm rfl rfl rfl <| wi (q := o + i) (i := i) el22 rfl rfl (by omega) (by omega) rfl rfl <| wd (v := .slice At ts.length ct) ty28 rfl (((O36.old).cell (p := ⟨b, o + i, none⟩) (hD b hDb)).trans hu) rfl rfl <| wz el28 rfl rfl rfl ?_
     by_cases c41 : ((ts.length : Nat) : Int) > 30
     ·skip
      refine wc rfl rfl (gtr1 (by omega)) rfl rfl <| wm rfl rfl rfl <| zAq rfl rfl <| zAq rfl rfl <| zAq rfl rfl <| zAq rfl rfl <| zAq rfl rfl <| zAq rfl rfl ?_
      refine zAq rfl rfl <| zAe (v := .bool true) (fun ρ e => zBa (e _ _ rfl) (e _ _ rfl)) rfl rfl <| zAd <| zAb K40 <| zAl rfl <| zAc fun _ K42 => zAa ?_
      refine zAs (args := []) in_4 rfl rfl rfl ?_
      refine (zHr w33).mono ?_
      rintro _ w43 ⟨rfl, hb44⟩
      have O45 := O36.below hb44
      refine ⟨_, rfl, ?_⟩
      refine wa rfl rfl rfl <| zAd <| zAb K42 <| zAz ?_
      refine zA3 ?_
      refine zAg (by intro h; cases h) ?_
      refine zAg (by intro h; cases h) ?_
      refine zA3 ?_
      refine zAg (by intro h; cases h) ?_
      refine zAy (v := .bool true) (fun T hT => res1 rfl T _ (hT 8 _ rfl)) ?_
      exact ⟨rfl, O45.old⟩
     ·skip
      refine wc rfl rfl (gtr0 (by omega)) rfl rfl <| wm rfl rfl rfl <| wm rfl rfl rfl <| wm rfl rfl rfl <| wi (q := o + i) (i := i) el22 rfl rfl (by omega) (by omega) rfl rfl <| wd (v := .slice At ts.length ct) ty28 rfl (((O36.old).cell (p := ⟨b, o + i, none⟩) (hD b hDb)).trans hu) rfl rfl <| wm rfl rfl rfl ?_
      refine zAs (args := [.slice At ts.length ct, .int .i64 (N : Int)]) in_5 rfl rfl rfl ?_
      refine (tcheck_ (hT.move (fun k hk => (O36.old).block k (hD k hk))) (fun k hk => Nat.lt_of_lt_of_le (hD k hk) (O36.old).size) (N : Int)).mono ?_
      rintro _ w46 ⟨rfl, hb47⟩
      have O48 := O36.below hb47
      refine ⟨_, rfl, ?_⟩
      by_cases c49 : (chkT ts (N : Int)) ≠ 0
      ·skip
       refine wc rfl rfl (neq1 (by omega)) rfl rfl <| zAe (v := .bool true) (fun ρ e => zA2 (e _ _ rfl) (e _ _ rfl)) rfl rfl <| zAd <| zAb K40 <| zAl rfl <| zAc fun _ K50 => zAa ?_
       refine zAs (args := []) in_4 rfl rfl rfl ?_
       refine (zHr w46).mono ?_
       rintro _ w51 ⟨rfl, hb52⟩
       have O53 := O48.below hb52
       refine ⟨_, rfl, ?_⟩
       refine wa rfl rfl rfl <| zAd <| zAb K50 <| zAz ?_
       refine zA3 ?_
       refine zAg (by intro h; cases h) ?_
       refine zAg (by intro h; cases h) ?_
       refine zA3 ?_
       refine zAg (by intro h; cases h) ?_
       refine zAy (v := .bool true) (fun T hT => res1 rfl T _ (hT 8 _ rfl)) ?_
       exact ⟨rfl, O53.old⟩
      ·skip
       refine wc rfl rfl (neq0 (by omega)) rfl rfl <| zAe (v := .bool false) (fun ρ e => zA2 (e _ _ rfl) (e _ _ rfl)) rfl rfl <| zAd <| zAb K40 <| zAf rfl <| zAj <| zAn <| zAb K39 ?_
       refine zAa <| wm rfl rfl rfl <| zAe (v := .int .i64 ((i + 1 : Nat) : Int)) (fun ρ e => zAi (k := .i64) (u := (i : Int)) (v := 1) (e _ _ rfl) (e _ _ rfl) (congrArg some ((congrArg _ (by omega)).trans (zAo (u := ((i + 1 : Nat) : Int)) (by omega) (by omega))))) rfl rfl <| wa rfl rfl rfl <| zAd ?_
       refine zAt K35 (i + 1) (by show fs.length - (i + 1) < fs.length - i; omega) ⟨(by show i + 1 ≤ fs.length; omega), (all_next hx hall ⟨by omega, by omega⟩), O48⟩ ⟨rfl, rfl, rfl, rfl, rfl, trivial⟩
    ·obtain rfl : i = fs.length := by omega
     rw [List.take_length] at hall
     refine zAc fun _ K54 => zAc fun _ K55 => zAa <| wm rfl rfl rfl <| wm rfl rfl rfl <| wz el22 rfl rfl rfl <| wc rfl rfl (lss0 (by omega)) rfl rfl <| zAd ?_
     refine zAb K55 <| zAf rfl <| zA6 ?_
     refine zAg (by intro h; cases h) ?_
     refine zAg (by intro h; cases h) ?_
     refine zA4 <| zAb K31 <| zAc fun _ K56 => zAa <| wm rfl rfl rfl <| wm rfl rfl rfl ?_
     refine zAs (args := [.slice A fs.length cf, .int .i64 (N : Int)]) in_6 rfl rfl rfl ?_
     refine (gforest_ (O36.ro 2 rfl) (O36.get 2 rfl).2.1 (by omega) (by omega) hall (by omega)).mono ?_
     rintro _ w57 ⟨RC, cC, DC, vsC, rfl, h58⟩
     have O59 := own_joinZ O36 (List.mem_of_getElem? (i := 2) rfl) h58
     refine ⟨_, rfl, ?_⟩
     refine wm rfl rfl rfl <| we rfl rfl rfl rfl <| we rfl rfl rfl rfl ?_
     obtain ⟨g60, w61, r62, O63, hg64, hs65⟩ := zAw O59 33 ze33 rfl
     refine zAe (v := VP g60) (fun ρ e => r62 ρ _ _ _ _ _) rfl rfl ?_
     obtain ⟨w66, r67, O68, hs69⟩ := zAp (o := 0) (n := 2) O63 ty33 (.agg #[.int .i64 (N : Int), .slice RC ((forestG fs).length) cC]) _ (cs' := #[.int .i64 (N : Int), .slice RC ((forestG fs).length) cC]) rfl rfl rfl (Nat.le_of_ble_eq_true rfl) rfl
     refine zAv (fun ρ e => r67 ρ _ _ _ _ _ _ (e _ _ rfl) (e _ _ rfl)) rfl <| wa rfl rfl rfl <| zAd <| zAb K56 <| zAc fun _ K70 => zAc fun _ K71 => zAa <| wm rfl rfl rfl ?_
     refine wc rfl rfl (neq0 (by omega)) rfl rfl <| zAd <| zAb K71 <| zAf rfl <| zAj <| zAb K70 <| zAc fun _ K72 => zAa ?_
     refine zAe (v := VP g2) (fun ρ e => zCe (q := 0) (i := 0) an25 (e _ _ rfl) (e _ _ rfl) (by omega) (by omega)) rfl rfl <| wd ty23 rfl (O68.cell 4 0 rfl rfl) rfl rfl <| wm rfl rfl rfl <| zAe (v := .int .u64 (N : Int)) (fun ρ e => zBi (u := (N : Int)) (v := (N : Int)) (e _ _ rfl) (zAx (by omega))) rfl rfl <| zAe (v := .int .u64 (p2 : Int)) (fun ρ e => zCa (k := .u64) (a := 1) (s := N) (r := (p2 : Int)) (e _ _ rfl) (e _ _ rfl) (show _ ≤ 64 by omega) ((congrArg _ (congrArg Nat.cast ((Nat.one_mul _).trans hp2e.symm))).trans (zAx (by omega)))) rfl rfl ?_
     refine zAe (v := .int .u64 ((p2 - 1 : Nat) : Int)) (fun ρ e => zAi (k := .u64) (u := (p2 : Int)) (v := 1) (e _ _ rfl) (e _ _ rfl) (congrArg some ((congrArg _ (show _ = ((p2 - 1 : Nat) : Int) by omega)).trans (zAx (by omega))))) rfl rfl <| zAe (v := .int .u64 (aN : Int)) (fun ρ e => zBp (a := s2.a.toNat) (b := p2 - 1) (q := aN) (e _ _ rfl) (e _ _ rfl) ((n_and (BitVec.isLt _) (show _ < 2 ^ 64 by omega)).trans (congrArg some haNe.symm)) (zAx (by omega))) rfl rfl <| zAe (v := VP g2) (fun ρ e => zCe (q := 0) (i := 0) an25 (e _ _ rfl) (e _ _ rfl) (by omega) (by omega)) rfl rfl ?_
     obtain ⟨w73, r74, O75, hs76⟩ := zAp (o := 0) (n := 1) (O68.re [4, 0, 1, 2, 3, 5, 6, 7] rfl) ty23 (.int .u64 (aN : Int)) _ (cs' := #[.int .u64 (aN : Int), .int .u64 (s2.b.toNat : Int)]) rfl rfl rfl (Nat.le_of_ble_eq_true rfl) rfl
     refine zAv (fun ρ e => r74 ρ _ _ _ _ _ _ (e _ _ rfl) (e _ _ rfl)) rfl <| zAe (v := .pointer (some ⟨g2, 1, none⟩)) (fun ρ e => zCe (q := 1) (i := 1) an25 (e _ _ rfl) (e _ _ rfl) (by omega) (by omega)) rfl rfl ?_
     obtain ⟨w77, r78, O79, hs80⟩ := zAp (o := 1) (n := 1) O75 ty23 (.int .u64 0) _ (cs' := #[.int .u64 (aN : Int), .int .u64 0]) rfl rfl rfl (Nat.le_of_ble_eq_true rfl) rfl
     refine zAv (fun ρ e => r78 ρ _ _ _ _ _ _ (e _ _ rfl) (e _ _ rfl)) rfl <| zAd <| zAb K72 <| zAc fun _ K81 => zAc fun _ K82 => ?_
     have O83 := Own.blkro O79
     have O84 := Own.blkro (O83.re [1, 0, 2, 3, 4, 5, 6, 7] rfl)
     have O85 := Own.rowro (O84.re [2, 0, 1, 3, 4, 5, 6, 7] rfl)
     have O86 := Own.blkro (O85.re [4, 0, 1, 2, 3, 5, 6, 7] rfl)
     refine zAa <| wa rfl rfl rfl <| zAd <| zAb K82 <| zAh ?_
     have hszF : sizeOf (forestG fs) ≤ 4611686018427387904 := forest_size (by omega) (by omega) hall (by omega)
     have hsubN : (asg aN).sub (VS.all (N : Int)) = true := asg_sub hN6 (hp2e ▸ haN)
     refine zA8 (ι := Nat) (fun q => [(0, .slice A fs.length cf), (1, .int .i64 (N : Int)), (6, VP g2), (7, VP g8), (10, VP g60), (12, .int .i64 (q : Int))]) (fun q X => (q ≤ fs.length) ∧ Own Z0 W X [.ro (fun k => k = g8) (fun w => Blk w g8 25 #[.int .u64 (P.a.toNat : Int), .int .u64 (P.b.toNat : Int)]), .ro (fun k => Value.ownBlock (.slice RC ((forestG fs).length) cC) = some k) (fun w => w.ownsRow 0 65 3 (.slice RC ((forestG fs).length) cC) ((forestG fs).length) (gcells (forestG fs) vsC)), .ro (fun k => k = g60) (fun w => Blk w g60 33 #[.int .i64 (N : Int), .slice RC ((forestG fs).length) cC]), .ro (fun k => k = g2) (fun w => Blk w g2 25 #[.int .u64 (aN : Int), .int .u64 0]), .ro DC (Ins DC (forestG fs) vsC), .ro DF (fun w => ForestD DF w (.slice A fs.length cf) fs), .ro TabD Tab, .ro TabE TabT]) (fun q => fs.length - q) 0 ⟨Nat.zero_le _, O86⟩ ⟨rfl, rfl, rfl, rfl, rfl, rfl, trivial⟩ (fun q w87 hJ F88 K89 => ?_)
     obtain ⟨i, rfl⟩ : ∃ x, x = q := ⟨_, rfl⟩
     obtain ⟨hi0, O90⟩ := hJ
     try dsimp only at hi0 O90 ⊢
     by_cases hi : i < fs.length
     ·skip
      obtain ⟨b, o, cb, hvb, hDb⟩ := hF.form (by omega)
      injection hvb with hA _ hc
      subst hA hc
      obtain ⟨ts, hx⟩ : ∃ x, fs[i]? = some x := ⟨fs[i], List.getElem?_eq_getElem hi⟩
      obtain ⟨u, hu, hT⟩ := hF.at_ hx
      obtain ⟨At, ct, rfl⟩ := hT.slice
      have hck := hall ts (List.mem_of_getElem? hx)
      obtain ⟨ck1, ck2, ck3, ck4, ck5⟩ := zEp.1 hck.1
      obtain ⟨AS, hVT⟩ := zGz ck4 ck5
      obtain ⟨hnw, hnd, hnp, hnl, hnv0⟩ := netT_law hVT ck2
      have hnv : ∀ s, nv (netT ts) s (((netT ts).length - 1 : Nat) : Int) = classOf ts s := fun s => (hnv0 s).trans (zFc (chkT_more hck.1) s).symm
      have hsmN := net_small hN6 hnw hnp
      have htot := tot_law (N := N) hnw hnd (by omega) hnp
      have hbias0 := bias_eq hN6 hnw hnp (hp2e ▸ haN) P
      simp only [hnv] at htot hbias0
      rw [← hp2e] at htot hbias0
      have hck30 := hck.2
      obtain ⟨ca, hca⟩ : ∃ b, classOf ts (asg aN) = b := ⟨_, rfl⟩
      refine zAc fun _ K91 => zAc fun _ K92 => zAa <| wm rfl rfl rfl <| wm rfl rfl rfl <| wz el22 rfl rfl rfl <| wc rfl rfl (lss1 (by omega)) rfl rfl <| zAd ?_
      refine zAb K92 <| zAl rfl <| zAj <| zAb K91 <| zAc fun _ K93 => zAh <| zAc fun _ K94 => zAa ?_
      refine wm rfl rfl rfl <| wm rfl rfl rfl <| wi (q := o + i) (i := i) el22 rfl rfl (by omega) (by omega) rfl rfl <| wd (v := .slice At ts.length ct) ty28 rfl (((O90.old).cell (p := ⟨b, o + i, none⟩) (hD b hDb)).trans hu) rfl rfl <| wm rfl rfl rfl ?_
      refine zAs (args := [.slice At ts.length ct, .int .i64 (N : Int)]) in_7 rfl rfl rfl ?_
      refine (tnet_ (hT.move (fun k hk => (O90.old).block k (hD k hk))) (fun k hk => Nat.lt_of_lt_of_le (hD k hk) (O90.old).size) (O90.ro 6 rfl) hck.1 hck.2).mono ?_
      rintro _ w95 ⟨RN, cN, DN, vsN, rfl, h96⟩
      have h96b := (h96.old)
      have O98 := O90.below h96b
      have O97 := Own.roonly O98 (by intro e he ho; simp only [List.mem_cons, List.not_mem_nil, or_false] at he; rcases he with rfl | rfl | rfl | rfl | rfl | rfl | rfl | rfl <;> exact ho) (netM_holds (h96.row 0 rfl) (h96.ro 1 rfl) (h96.get 1 rfl).2.1)
      refine ⟨_, rfl, ?_⟩
      refine wm rfl rfl rfl <| we rfl rfl rfl rfl <| we rfl rfl rfl rfl ?_
      obtain ⟨g99, w100, r101, O102, hg103, hs104⟩ := zAw O97 39 ze39 rfl
      refine zAe (v := VP g99) (fun ρ e => r101 ρ _ _ _ _ _) rfl rfl ?_
      obtain ⟨w105, r106, O107, hs108⟩ := zAp (o := 0) (n := 2) O102 ty39 (.agg #[.int .i64 (N : Int), .slice RN ((netT ts).length) cN]) _ (cs' := #[.int .i64 (N : Int), .slice RN ((netT ts).length) cN]) rfl rfl rfl (Nat.le_of_ble_eq_true rfl) rfl
      refine zAv (fun ρ e => r106 ρ _ _ _ _ _ _ (e _ _ rfl) (e _ _ rfl)) rfl <| wa rfl rfl rfl <| nx K94 fun _ K109 => zAe (v := .agg #[.int .i64 (N : Int), .slice RN ((netT ts).length) cN]) (fun ρ e => zAk (vs := [.int .i64 (N : Int), .slice RN ((netT ts).length) cN]) ty39 (e _ _ rfl) rfl (O107.cells 0 0 rfl rfl)) rfl rfl ?_
      refine zAs (args := [.agg #[.int .i64 (N : Int), .slice RN ((netT ts).length) cN]]) in_8 rfl rfl rfl ?_
      refine (ncount_ (NetM.gates (O107.ro 1 rfl) (O107.get 1 rfl).2.1) hnw hnp (by omega) hN6 hnd (O107.ro 9 rfl)).mono ?_
      rintro _ w110 ⟨rfl, hb111⟩
      have O112 := O107.below hb111
      refine ⟨_, rfl, ?_⟩
      refine wm rfl rfl rfl <| we rfl rfl rfl rfl <| we rfl rfl rfl rfl ?_
      obtain ⟨g113, w114, r115, O116, hg117, hs118⟩ := zAw O112 43 ze43 rfl
      refine zAe (v := VP g113) (fun ρ e => r115 ρ _ _ _ _ _) rfl rfl ?_
      obtain ⟨w119, r120, O121, hs122⟩ := zAp (o := 0) (n := 1) O116 ty43 (.agg #[.string (natB (totN N (netT ts)))]) _ (cs' := #[.string (natB (totN N (netT ts)))]) rfl rfl rfl (Nat.le_of_ble_eq_true rfl) rfl
      refine zAv (fun ρ e => r120 ρ _ _ _ _ _ _ (e _ _ rfl) (e _ _ rfl)) rfl <| wa rfl rfl rfl <| nx K109 fun _ K123 => zAe (v := .agg #[.int .i64 (N : Int), .slice RN ((netT ts).length) cN]) (fun ρ e => zAk (vs := [.int .i64 (N : Int), .slice RN ((netT ts).length) cN]) ty39 (e _ _ rfl) rfl (O121.cells 1 0 rfl rfl)) rfl rfl <| zAe (v := .agg #[.int .u64 (aN : Int), .int .u64 0]) (fun ρ e => zAk (vs := [.int .u64 (aN : Int), .int .u64 0]) ty25 (e _ _ rfl) rfl (cells2 (((O121.ro 6 rfl : Blk _ g2 25 #[.int .u64 (aN : Int), .int .u64 0]).cell 0).trans rfl) (((O121.ro 6 rfl : Blk _ g2 25 #[.int .u64 (aN : Int), .int .u64 0]).cell 1).trans rfl))) rfl rfl ?_
      refine zAe (v := .agg #[.int .u64 (P.a.toNat : Int), .int .u64 (P.b.toNat : Int)]) (fun ρ e => zAk (vs := [.int .u64 (P.a.toNat : Int), .int .u64 (P.b.toNat : Int)]) ty25 (e _ _ rfl) rfl (cells2 (((O121.ro 3 rfl : Blk _ g8 25 #[.int .u64 (P.a.toNat : Int), .int .u64 (P.b.toNat : Int)]).cell 0).trans rfl) (((O121.ro 3 rfl : Blk _ g8 25 #[.int .u64 (P.a.toNat : Int), .int .u64 (P.b.toNat : Int)]).cell 1).trans rfl))) rfl rfl ?_
      refine zAs (args := [.agg #[.int .i64 (N : Int), .slice RN ((netT ts).length) cN], .agg #[.int .u64 (aN : Int), .int .u64 0], .agg #[.int .u64 (P.a.toNat : Int), .int .u64 (P.b.toNat : Int)]]) in_9 rfl rfl rfl ?_
      refine (biasb_ (a := aN) (NetM.gates (O121.ro 2 rfl) (O121.get 2 rfl).2.1) hnw hnp (by omega) (by omega) (by omega) (O121.ro 10 rfl) hsmN P (by omega) hsubN).mono ?_
      rintro _ w124 ⟨rfl, hb125⟩
      have O126 := O121.below hb125
      refine ⟨_, rfl, ?_⟩
      refine wm rfl rfl rfl <| we rfl rfl rfl rfl <| we rfl rfl rfl rfl <| wa rfl rfl rfl <| wa rfl rfl rfl <| nx K123 fun _ K127 => wa rfl rfl rfl <| wa rfl rfl rfl ?_
      refine zAd <| zAb K127 <| zAc fun _ K128 => zAc fun _ K129 => zAa <| wa rfl rfl rfl <| zAd <| zAb K129 ?_
      refine zAh ?_
      refine zA8 (ι := Nat × Nat × Bool) (fun q => [(0, .slice (some ⟨b, o, none⟩) fs.length cf), (1, .int .i64 (N : Int)), (6, VP g2), (7, VP g8), (10, VP g60), (12, .int .i64 (i : Int)), (13, VP g99), (14, .int .i64 0), (15, VP g113), (16, .int .i64 0), (17, .bool (biasR (netT ts) (asg aN) P)), (18, .int .i64 0), (19, .int .u64 (q.2.1 : Int)), (20, .bool q.2.2), (21, .int .u64 (q.1 : Int))]) (fun q X => (q.1 ≤ p2) ∧ (q.2.1 = (List.range q.1).countP fun k => classOf ts (asg k)) ∧ (q.2.2 = shouldR (fun k => classOf ts (asg k)) P.a.toNat aN q.1) ∧ Own Z0 W X [.blk g113 43 #[.string (natB (totN N (netT ts)))], .blk g99 39 #[.int .i64 (N : Int), .slice RN ((netT ts).length) cN], .ro (fun k => k < w95.heap.size) (NetM w95.heap.size (.slice RN ((netT ts).length) cN) (netT ts)), .ro (fun k => k = g8) (fun w => Blk w g8 25 #[.int .u64 (P.a.toNat : Int), .int .u64 (P.b.toNat : Int)]), .ro (fun k => Value.ownBlock (.slice RC ((forestG fs).length) cC) = some k) (fun w => w.ownsRow 0 65 3 (.slice RC ((forestG fs).length) cC) ((forestG fs).length) (gcells (forestG fs) vsC)), .ro (fun k => k = g60) (fun w => Blk w g60 33 #[.int .i64 (N : Int), .slice RC ((forestG fs).length) cC]), .ro (fun k => k = g2) (fun w => Blk w g2 25 #[.int .u64 (aN : Int), .int .u64 0]), .ro DC (Ins DC (forestG fs) vsC), .ro DF (fun w => ForestD DF w (.slice (some ⟨b, o, none⟩) fs.length cf) fs), .ro TabD Tab, .ro TabE TabT]) (fun q => p2 - q.1) (0, 0, false) ⟨Nat.zero_le _, rfl, rfl, O126⟩ ⟨rfl, rfl, rfl, rfl, rfl, rfl, rfl, rfl, rfl, rfl, rfl, rfl, rfl, rfl, rfl, trivial⟩ (fun q w130 hJ F131 K132 => ?_)
      obtain ⟨j, kN, sh⟩ := q
      obtain ⟨hj0, hkN, hsh, O133⟩ := hJ
      dsimp only at hj0 hkN hsh O133 ⊢
      have hcle := count_le (fun k => classOf ts (asg k)) j
      rw [← hkN] at hcle
      by_cases hj : j < p2
      ·skip
       have hxr : j ^^^ aN < 64 := Nat.xor_lt_two_pow (n := 6) (show j < 64 by omega) (show aN < 64 by omega)
       obtain ⟨cj, hcj⟩ : ∃ b, classOf ts (asg j) = b := ⟨_, rfl⟩
       have hsc := count_succ (fun k => classOf ts (asg k)) j
       have hss := should_succ (fun k => classOf ts (asg k)) P.a.toNat aN j
       rw [← hkN] at hsc
       rw [← hsh] at hss
       try dsimp only at hsc hss
       rw [hcj] at hsc hss
       rw [hca] at hss
       cases cj <;> cases ca <;> cases sh
       ·skip
        refine zAc fun _ K134 => zAc fun _ K135 => zAa <| wm rfl rfl rfl <| wm rfl rfl rfl <| zAe (v := .int .u64 (N : Int)) (fun ρ e => zBi (u := (N : Int)) (v := (N : Int)) (e _ _ rfl) (zAx (by omega))) rfl rfl <| zAe (v := .int .u64 (p2 : Int)) (fun ρ e => zCa (k := .u64) (a := 1) (s := N) (r := (p2 : Int)) (e _ _ rfl) (e _ _ rfl) (show _ ≤ 64 by omega) ((congrArg _ (congrArg Nat.cast ((Nat.one_mul _).trans hp2e.symm))).trans (zAx (by omega)))) rfl rfl <| wc rfl rfl (lss1 (by omega)) rfl rfl ?_
        refine zAd <| zAb K135 <| zAl rfl <| zAj <| zAb K134 <| zAc fun _ K136 => zAh <| zAc fun _ K137 => ?_
        refine zAa <| wm rfl rfl rfl <| wm rfl rfl rfl <| wi (q := o + i) (i := i) el22 rfl rfl (by omega) (by omega) rfl rfl <| wd (v := .slice At ts.length ct) ty28 rfl (((O133.old).cell (p := ⟨b, o + i, none⟩) (hD b hDb)).trans hu) rfl rfl <| wm rfl rfl rfl <| zAe (v := .agg #[.int .u64 (j : Int), .int .u64 0]) (fun ρ e => zBl (cells := #[.int .u64 (j : Int), .int .u64 0]) ar25 (e.parts rfl) rfl) rfl rfl ?_
        refine zAs (args := [.slice At ts.length ct, .agg #[.int .u64 (j : Int), .int .u64 0]]) zFo rfl rfl rfl ?_
        refine (zCz (hT.move (fun k hk => (O133.old).block k (hD k hk))) (fun k hk => Nat.lt_of_lt_of_le (hD k hk) (O133.old).size) (m := j) (by omega) hcj).mono ?_
        rintro _ w138 ⟨rfl, hb139⟩
        have O140 := O133.below hb139
        refine ⟨_, rfl, ?_⟩
        refine wa rfl rfl rfl <| zAd <| zAb K137 <| zAc fun _ K141 => zAc fun _ K142 => zAa <| wm rfl rfl rfl <| zAd ?_
        refine zAb K142 <| zAf rfl <| zAj <| zAb K141 <| zAc fun _ K143 => zAc fun _ K144 => zAa <| zAe (v := .agg #[.int .i64 (N : Int), .slice RN ((netT ts).length) cN]) (fun ρ e => zAk (vs := [.int .i64 (N : Int), .slice RN ((netT ts).length) cN]) ty39 (e _ _ rfl) rfl (O140.cells 1 0 rfl rfl)) rfl rfl ?_
        refine wm rfl rfl rfl <| zAe (v := .agg #[.int .u64 (j : Int), .int .u64 0]) (fun ρ e => zBl (cells := #[.int .u64 (j : Int), .int .u64 0]) ar25 (e.parts rfl) rfl) rfl rfl ?_
        refine zAs (args := [.agg #[.int .i64 (N : Int), .slice RN ((netT ts).length) cN], .agg #[.int .u64 (j : Int), .int .u64 0]]) zIu rfl rfl rfl ?_
        refine (zIq (m := j) (NetM.gates (O140.ro 2 rfl) (O140.get 2 rfl).2.1) hnw hnp (by omega) (by omega) (by omega) (by omega) ((hnv (asg j)).trans hcj)).mono ?_
        rintro _ w145 ⟨rfl, hb146⟩
        have O147 := O140.below hb146
        refine ⟨_, rfl, ?_⟩
        refine wm rfl rfl rfl <| zAe (v := .bool false) (fun ρ e => zDe (r := false) (e _ _ rfl) (e _ _ rfl) (by simp)) rfl rfl <| zAd <| zAb K144 <| zAf rfl <| zAj <| zAb K143 ?_
        refine zA1 (fun X => Own Z0 W X [.blk g113 43 #[.string (natB (totN N (netT ts)))], .blk g99 39 #[.int .i64 (N : Int), .slice RN ((netT ts).length) cN], .ro (fun k => k < w95.heap.size) (NetM w95.heap.size (.slice RN ((netT ts).length) cN) (netT ts)), .ro (fun k => k = g8) (fun w => Blk w g8 25 #[.int .u64 (P.a.toNat : Int), .int .u64 (P.b.toNat : Int)]), .ro (fun k => Value.ownBlock (.slice RC ((forestG fs).length) cC) = some k) (fun w => w.ownsRow 0 65 3 (.slice RC ((forestG fs).length) cC) ((forestG fs).length) (gcells (forestG fs) vsC)), .ro (fun k => k = g60) (fun w => Blk w g60 33 #[.int .i64 (N : Int), .slice RC ((forestG fs).length) cC]), .ro (fun k => k = g2) (fun w => Blk w g2 25 #[.int .u64 (aN : Int), .int .u64 0]), .ro DC (Ins DC (forestG fs) vsC), .ro DF (fun w => ForestD DF w (.slice (some ⟨b, o, none⟩) fs.length cf) fs), .ro TabD Tab, .ro TabE TabT]) 21 [(0, 1), (1, 1), (2, 1), (3, 1), (4, 0), (5, 1), (6, 1), (7, 0), (8, 1), (9, 1), (10, 1), (11, 1), (12, 1), (13, 1), (14, 1), (15, 0), (16, 0), (17, 2), (18, 1), (19, 1), (20, 1), (21, 3)] (by kernel_rfl) (by kernel_rfl) (PQ.block (PQ.then_ (PQ.then_ (PQ.block (PQ.then_ (PQ.block (PQ.then_ (PQ.then_ (PQ.block (PQ.then_ PQ.body)))))))))) (O147).drew ?_
        have O148 := O147.drew
        refine tm rfl rfl rfl rfl <| tm rfl rfl rfl rfl <| tm rfl rfl rfl rfl <| wt1 (v := VP g2) rfl (fun ρ e W => zCe (q := 0) (i := 0) an25 (e _ _ rfl) (e _ _ rfl) (by omega) (by omega)) rfl rfl <| wt0 (v := .int .u64 (aN : Int)) rfl (fun ρ e W hW => zAm ty23 (e _ _ rfl) (((hW.ro 6 rfl : Blk _ g2 25 #[.int .u64 (aN : Int), .int .u64 0]).cell 0).trans rfl)) rfl rfl <| wt1 (v := .int .u64 ((j ^^^ aN : Nat) : Int)) rfl (fun ρ e W => zBp (a := j) (b := aN) (q := j ^^^ aN) (e _ _ rfl) (e _ _ rfl) (n_xor (show _ < 2 ^ 64 by omega) (show _ < 2 ^ 64 by omega)) (zAx (by omega))) rfl rfl ?_
        refine wt1 (v := VP g8) rfl (fun ρ e W => zCe (q := 0) (i := 0) an25 (e _ _ rfl) (e _ _ rfl) (by omega) (by omega)) rfl rfl <| wt0 (v := .int .u64 (P.a.toNat : Int)) rfl (fun ρ e W hW => zAm ty23 (e _ _ rfl) (((hW.ro 3 rfl : Blk _ g8 25 #[.int .u64 (P.a.toNat : Int), .int .u64 (P.b.toNat : Int)]).cell 0).trans rfl)) rfl rfl <| wt1 (v := .int .u64 ((andn (j ^^^ aN) P.a.toNat : Nat) : Int)) rfl (fun ρ e W => zBp (a := j ^^^ aN) (b := P.a.toNat) (q := andn (j ^^^ aN) P.a.toNat) (e _ _ rfl) (e _ _ rfl) rfl (zAx (BitVec.isLt _))) rfl rfl ?_
        by_cases c149 : ((andn (j ^^^ aN) P.a.toNat : Nat) : Int) = 0
        ·skip
         refine wt1 (v := .bool true) rfl (fun ρ e W => zCx (u := ((andn (j ^^^ aN) P.a.toNat : Nat) : Int)) (v := 0) (e _ _ rfl) (e _ _ rfl) (eql1 (by omega))) rfl rfl <| tm rfl rfl rfl rfl <| tm rfl rfl rfl rfl <| tm rfl rfl rfl rfl <| tm rfl rfl rfl rfl <| wt1 (v := .pointer (some ⟨b, o + i, none⟩)) rfl (fun ρ e W => zA9 (q := o + i) (i := i) el22 (e _ _ rfl) (e _ _ rfl) (by omega) (by omega)) rfl rfl <| wt0 (v := .slice At ts.length ct) rfl (fun ρ e W hW => zAm ty28 (e _ _ rfl) (((hW.old).cell (p := ⟨b, o + i, none⟩) (hD b hDb)).trans hu)) rfl rfl <| wt0 (v := .agg #[.int .u64 (aN : Int), .int .u64 0]) rfl (fun ρ e W hW => zAk (vs := [.int .u64 (aN : Int), .int .u64 0]) ty25 (e _ _ rfl) rfl (cells2 (((hW.ro 6 rfl : Blk _ g2 25 #[.int .u64 (aN : Int), .int .u64 0]).cell 0).trans rfl) (((hW.ro 6 rfl : Blk _ g2 25 #[.int .u64 (aN : Int), .int .u64 0]).cell 1).trans rfl))) rfl rfl ?_
         refine zA7 (args := [.slice At ts.length ct, .agg #[.int .u64 (aN : Int), .int .u64 0]]) rfl zFo rfl rfl rfl ?_
         refine (zCz (hT.move (fun k hk => (O148.old).block k (hD k hk))) (fun k hk => Nat.lt_of_lt_of_le (hD k hk) (O148.old).size) (m := aN) (by omega) hca).mono ?_
         rintro _ w150 ⟨rfl, hb151⟩
         have O152 := O148.below hb151
         refine ⟨_, rfl, O152, ?_⟩
         refine wt1 (v := .bool false) rfl (fun ρ e W => zDe (r := false) (e _ _ rfl) (e _ _ rfl) (by simp)) rfl rfl <| wt1 (v := .bool false) rfl (fun ρ e W => zBa (e _ _ rfl) (e _ _ rfl)) rfl rfl <| wt1 (v := .bool false) rfl (fun ρ e W => zA2 (e _ _ rfl) (e _ _ rfl)) rfl rfl <| wt3 (v := .bool false) rfl (fun ρ e => zBb (e _ _ rfl)) rfl rfl <| zBc <| zAn <| zAb K136 <| zAa ?_
         refine wm rfl rfl rfl <| zAe (v := .int .u64 ((j + 1 : Nat) : Int)) (fun ρ e => zAi (k := .u64) (u := (j : Int)) (v := 1) (e _ _ rfl) (e _ _ rfl) (congrArg some ((congrArg _ (show _ = ((j + 1 : Nat) : Int) by omega)).trans (zAx (by omega))))) rfl rfl <| wa rfl rfl rfl <| zAd ?_
         refine zAt K132 (j + 1, kN, false) (by show p2 - (j + 1) < p2 - j; omega) ⟨(by show j + 1 ≤ p2; omega), (by rw [hsc]; rfl), (by rw [hss]; first | rfl | (simp; done) | (have hz : andn (j ^^^ aN) P.a.toNat = 0 := Int.ofNat_eq_zero.1 c149; simp [hz]; done)), O152⟩ ⟨rfl, rfl, rfl, rfl, rfl, rfl, rfl, rfl, rfl, rfl, rfl, rfl, rfl, rfl, rfl, trivial⟩
        ·skip
         refine wt1 (v := .bool false) rfl (fun ρ e W => zCx (u := ((andn (j ^^^ aN) P.a.toNat : Nat) : Int)) (v := 0) (e _ _ rfl) (e _ _ rfl) (eql0 (by omega))) rfl rfl <| tm rfl rfl rfl rfl <| zA0 rfl rfl rfl <| zA0 rfl rfl rfl <| zA0 rfl rfl rfl <| zA0 rfl rfl rfl <| zBm rfl rfl rfl <| zBm rfl rfl rfl ?_
         refine zDi rfl rfl rfl O148 ?_
         refine zA0 rfl rfl rfl <| wt1 (v := .bool false) rfl (fun ρ e W => zA2 (e _ _ rfl) (e _ _ rfl)) rfl rfl <| wt1 (v := .bool false) rfl (fun ρ e W => zA2 (e _ _ rfl) (e _ _ rfl)) rfl rfl <| wt3 (v := .bool false) rfl (fun ρ e => zBb (e _ _ rfl)) rfl rfl <| zBc <| zAn <| zAb K136 <| zAa ?_
         refine wm rfl rfl rfl <| zAe (v := .int .u64 ((j + 1 : Nat) : Int)) (fun ρ e => zAi (k := .u64) (u := (j : Int)) (v := 1) (e _ _ rfl) (e _ _ rfl) (congrArg some ((congrArg _ (show _ = ((j + 1 : Nat) : Int) by omega)).trans (zAx (by omega))))) rfl rfl <| wa rfl rfl rfl <| zAd ?_
         refine zAt K132 (j + 1, kN, false) (by show p2 - (j + 1) < p2 - j; omega) ⟨(by show j + 1 ≤ p2; omega), (by rw [hsc]; rfl), (by rw [hss]; first | rfl | (simp; done) | (have hz : ¬ andn (j ^^^ aN) P.a.toNat = 0 := fun e => c149 (congrArg Nat.cast e); simp [hz]; done)), O148⟩ ⟨rfl, rfl, rfl, rfl, rfl, rfl, rfl, rfl, rfl, rfl, rfl, rfl, rfl, rfl, rfl, trivial⟩
       ·skip
        refine zAc fun _ K153 => zAc fun _ K154 => zAa <| wm rfl rfl rfl <| wm rfl rfl rfl <| zAe (v := .int .u64 (N : Int)) (fun ρ e => zBi (u := (N : Int)) (v := (N : Int)) (e _ _ rfl) (zAx (by omega))) rfl rfl <| zAe (v := .int .u64 (p2 : Int)) (fun ρ e => zCa (k := .u64) (a := 1) (s := N) (r := (p2 : Int)) (e _ _ rfl) (e _ _ rfl) (show _ ≤ 64 by omega) ((congrArg _ (congrArg Nat.cast ((Nat.one_mul _).trans hp2e.symm))).trans (zAx (by omega)))) rfl rfl <| wc rfl rfl (lss1 (by omega)) rfl rfl ?_
        refine zAd <| zAb K154 <| zAl rfl <| zAj <| zAb K153 <| zAc fun _ K155 => zAh <| zAc fun _ K156 => ?_
        refine zAa <| wm rfl rfl rfl <| wm rfl rfl rfl <| wi (q := o + i) (i := i) el22 rfl rfl (by omega) (by omega) rfl rfl <| wd (v := .slice At ts.length ct) ty28 rfl (((O133.old).cell (p := ⟨b, o + i, none⟩) (hD b hDb)).trans hu) rfl rfl <| wm rfl rfl rfl <| zAe (v := .agg #[.int .u64 (j : Int), .int .u64 0]) (fun ρ e => zBl (cells := #[.int .u64 (j : Int), .int .u64 0]) ar25 (e.parts rfl) rfl) rfl rfl ?_
        refine zAs (args := [.slice At ts.length ct, .agg #[.int .u64 (j : Int), .int .u64 0]]) zFo rfl rfl rfl ?_
        refine (zCz (hT.move (fun k hk => (O133.old).block k (hD k hk))) (fun k hk => Nat.lt_of_lt_of_le (hD k hk) (O133.old).size) (m := j) (by omega) hcj).mono ?_
        rintro _ w157 ⟨rfl, hb158⟩
        have O159 := O133.below hb158
        refine ⟨_, rfl, ?_⟩
        refine wa rfl rfl rfl <| zAd <| zAb K156 <| zAc fun _ K160 => zAc fun _ K161 => zAa <| wm rfl rfl rfl <| zAd ?_
        refine zAb K161 <| zAf rfl <| zAj <| zAb K160 <| zAc fun _ K162 => zAc fun _ K163 => zAa <| zAe (v := .agg #[.int .i64 (N : Int), .slice RN ((netT ts).length) cN]) (fun ρ e => zAk (vs := [.int .i64 (N : Int), .slice RN ((netT ts).length) cN]) ty39 (e _ _ rfl) rfl (O159.cells 1 0 rfl rfl)) rfl rfl ?_
        refine wm rfl rfl rfl <| zAe (v := .agg #[.int .u64 (j : Int), .int .u64 0]) (fun ρ e => zBl (cells := #[.int .u64 (j : Int), .int .u64 0]) ar25 (e.parts rfl) rfl) rfl rfl ?_
        refine zAs (args := [.agg #[.int .i64 (N : Int), .slice RN ((netT ts).length) cN], .agg #[.int .u64 (j : Int), .int .u64 0]]) zIu rfl rfl rfl ?_
        refine (zIq (m := j) (NetM.gates (O159.ro 2 rfl) (O159.get 2 rfl).2.1) hnw hnp (by omega) (by omega) (by omega) (by omega) ((hnv (asg j)).trans hcj)).mono ?_
        rintro _ w164 ⟨rfl, hb165⟩
        have O166 := O159.below hb165
        refine ⟨_, rfl, ?_⟩
        refine wm rfl rfl rfl <| zAe (v := .bool false) (fun ρ e => zDe (r := false) (e _ _ rfl) (e _ _ rfl) (by simp)) rfl rfl <| zAd <| zAb K163 <| zAf rfl <| zAj <| zAb K162 ?_
        refine zA1 (fun X => Own Z0 W X [.blk g113 43 #[.string (natB (totN N (netT ts)))], .blk g99 39 #[.int .i64 (N : Int), .slice RN ((netT ts).length) cN], .ro (fun k => k < w95.heap.size) (NetM w95.heap.size (.slice RN ((netT ts).length) cN) (netT ts)), .ro (fun k => k = g8) (fun w => Blk w g8 25 #[.int .u64 (P.a.toNat : Int), .int .u64 (P.b.toNat : Int)]), .ro (fun k => Value.ownBlock (.slice RC ((forestG fs).length) cC) = some k) (fun w => w.ownsRow 0 65 3 (.slice RC ((forestG fs).length) cC) ((forestG fs).length) (gcells (forestG fs) vsC)), .ro (fun k => k = g60) (fun w => Blk w g60 33 #[.int .i64 (N : Int), .slice RC ((forestG fs).length) cC]), .ro (fun k => k = g2) (fun w => Blk w g2 25 #[.int .u64 (aN : Int), .int .u64 0]), .ro DC (Ins DC (forestG fs) vsC), .ro DF (fun w => ForestD DF w (.slice (some ⟨b, o, none⟩) fs.length cf) fs), .ro TabD Tab, .ro TabE TabT]) 21 [(0, 1), (1, 1), (2, 1), (3, 1), (4, 0), (5, 1), (6, 1), (7, 0), (8, 1), (9, 1), (10, 1), (11, 1), (12, 1), (13, 1), (14, 1), (15, 0), (16, 0), (17, 2), (18, 1), (19, 1), (20, 1), (21, 3)] (by kernel_rfl) (by kernel_rfl) (PQ.block (PQ.then_ (PQ.then_ (PQ.block (PQ.then_ (PQ.block (PQ.then_ (PQ.then_ (PQ.block (PQ.then_ PQ.body)))))))))) (O166).drew ?_
        have O167 := O166.drew
        refine tm rfl rfl rfl rfl <| tm rfl rfl rfl rfl <| zA0 rfl rfl rfl <| zA0 rfl rfl rfl <| zBm rfl rfl rfl <| zA0 rfl rfl rfl <| zA0 rfl rfl rfl <| zBm rfl rfl rfl ?_
        refine zA0 rfl rfl rfl <| zA0 rfl rfl rfl <| zA0 rfl rfl rfl <| zA0 rfl rfl rfl <| zA0 rfl rfl rfl <| zA0 rfl rfl rfl <| zA0 rfl rfl rfl <| zBm rfl rfl rfl ?_
        refine zBm rfl rfl rfl ?_
        refine zDi rfl rfl rfl O167 ?_
        refine zA0 rfl rfl rfl <| zA0 rfl rfl rfl <| wt1 (v := .bool true) rfl (fun ρ e W => zBa (e _ _ rfl) (e _ _ rfl)) rfl rfl <| wt3 (v := .bool true) rfl (fun ρ e => zBb (e _ _ rfl)) rfl rfl <| zBc <| zAn <| zAb K155 <| zAa ?_
        refine wm rfl rfl rfl <| zAe (v := .int .u64 ((j + 1 : Nat) : Int)) (fun ρ e => zAi (k := .u64) (u := (j : Int)) (v := 1) (e _ _ rfl) (e _ _ rfl) (congrArg some ((congrArg _ (show _ = ((j + 1 : Nat) : Int) by omega)).trans (zAx (by omega))))) rfl rfl <| wa rfl rfl rfl <| zAd ?_
        refine zAt K132 (j + 1, kN, true) (by show p2 - (j + 1) < p2 - j; omega) ⟨(by show j + 1 ≤ p2; omega), (by rw [hsc]; rfl), (by rw [hss]; first | rfl | (simp; done)), O167⟩ ⟨rfl, rfl, rfl, rfl, rfl, rfl, rfl, rfl, rfl, rfl, rfl, rfl, rfl, rfl, rfl, trivial⟩
       ·skip
        refine zAc fun _ K168 => zAc fun _ K169 => zAa <| wm rfl rfl rfl <| wm rfl rfl rfl <| zAe (v := .int .u64 (N : Int)) (fun ρ e => zBi (u := (N : Int)) (v := (N : Int)) (e _ _ rfl) (zAx (by omega))) rfl rfl <| zAe (v := .int .u64 (p2 : Int)) (fun ρ e => zCa (k := .u64) (a := 1) (s := N) (r := (p2 : Int)) (e _ _ rfl) (e _ _ rfl) (show _ ≤ 64 by omega) ((congrArg _ (congrArg Nat.cast ((Nat.one_mul _).trans hp2e.symm))).trans (zAx (by omega)))) rfl rfl <| wc rfl rfl (lss1 (by omega)) rfl rfl ?_
        refine zAd <| zAb K169 <| zAl rfl <| zAj <| zAb K168 <| zAc fun _ K170 => zAh <| zAc fun _ K171 => ?_
        refine zAa <| wm rfl rfl rfl <| wm rfl rfl rfl <| wi (q := o + i) (i := i) el22 rfl rfl (by omega) (by omega) rfl rfl <| wd (v := .slice At ts.length ct) ty28 rfl (((O133.old).cell (p := ⟨b, o + i, none⟩) (hD b hDb)).trans hu) rfl rfl <| wm rfl rfl rfl <| zAe (v := .agg #[.int .u64 (j : Int), .int .u64 0]) (fun ρ e => zBl (cells := #[.int .u64 (j : Int), .int .u64 0]) ar25 (e.parts rfl) rfl) rfl rfl ?_
        refine zAs (args := [.slice At ts.length ct, .agg #[.int .u64 (j : Int), .int .u64 0]]) zFo rfl rfl rfl ?_
        refine (zCz (hT.move (fun k hk => (O133.old).block k (hD k hk))) (fun k hk => Nat.lt_of_lt_of_le (hD k hk) (O133.old).size) (m := j) (by omega) hcj).mono ?_
        rintro _ w172 ⟨rfl, hb173⟩
        have O174 := O133.below hb173
        refine ⟨_, rfl, ?_⟩
        refine wa rfl rfl rfl <| zAd <| zAb K171 <| zAc fun _ K175 => zAc fun _ K176 => zAa <| wm rfl rfl rfl <| zAd ?_
        refine zAb K176 <| zAf rfl <| zAj <| zAb K175 <| zAc fun _ K177 => zAc fun _ K178 => zAa <| zAe (v := .agg #[.int .i64 (N : Int), .slice RN ((netT ts).length) cN]) (fun ρ e => zAk (vs := [.int .i64 (N : Int), .slice RN ((netT ts).length) cN]) ty39 (e _ _ rfl) rfl (O174.cells 1 0 rfl rfl)) rfl rfl ?_
        refine wm rfl rfl rfl <| zAe (v := .agg #[.int .u64 (j : Int), .int .u64 0]) (fun ρ e => zBl (cells := #[.int .u64 (j : Int), .int .u64 0]) ar25 (e.parts rfl) rfl) rfl rfl ?_
        refine zAs (args := [.agg #[.int .i64 (N : Int), .slice RN ((netT ts).length) cN], .agg #[.int .u64 (j : Int), .int .u64 0]]) zIu rfl rfl rfl ?_
        refine (zIq (m := j) (NetM.gates (O174.ro 2 rfl) (O174.get 2 rfl).2.1) hnw hnp (by omega) (by omega) (by omega) (by omega) ((hnv (asg j)).trans hcj)).mono ?_
        rintro _ w179 ⟨rfl, hb180⟩
        have O181 := O174.below hb180
        refine ⟨_, rfl, ?_⟩
        refine wm rfl rfl rfl <| zAe (v := .bool false) (fun ρ e => zDe (r := false) (e _ _ rfl) (e _ _ rfl) (by simp)) rfl rfl <| zAd <| zAb K178 <| zAf rfl <| zAj <| zAb K177 ?_
        refine zA1 (fun X => Own Z0 W X [.blk g113 43 #[.string (natB (totN N (netT ts)))], .blk g99 39 #[.int .i64 (N : Int), .slice RN ((netT ts).length) cN], .ro (fun k => k < w95.heap.size) (NetM w95.heap.size (.slice RN ((netT ts).length) cN) (netT ts)), .ro (fun k => k = g8) (fun w => Blk w g8 25 #[.int .u64 (P.a.toNat : Int), .int .u64 (P.b.toNat : Int)]), .ro (fun k => Value.ownBlock (.slice RC ((forestG fs).length) cC) = some k) (fun w => w.ownsRow 0 65 3 (.slice RC ((forestG fs).length) cC) ((forestG fs).length) (gcells (forestG fs) vsC)), .ro (fun k => k = g60) (fun w => Blk w g60 33 #[.int .i64 (N : Int), .slice RC ((forestG fs).length) cC]), .ro (fun k => k = g2) (fun w => Blk w g2 25 #[.int .u64 (aN : Int), .int .u64 0]), .ro DC (Ins DC (forestG fs) vsC), .ro DF (fun w => ForestD DF w (.slice (some ⟨b, o, none⟩) fs.length cf) fs), .ro TabD Tab, .ro TabE TabT]) 21 [(0, 1), (1, 1), (2, 1), (3, 1), (4, 0), (5, 1), (6, 1), (7, 0), (8, 1), (9, 1), (10, 1), (11, 1), (12, 1), (13, 1), (14, 1), (15, 0), (16, 0), (17, 2), (18, 1), (19, 1), (20, 1), (21, 3)] (by kernel_rfl) (by kernel_rfl) (PQ.block (PQ.then_ (PQ.then_ (PQ.block (PQ.then_ (PQ.block (PQ.then_ (PQ.then_ (PQ.block (PQ.then_ PQ.body)))))))))) (O181).drew ?_
        have O182 := O181.drew
        refine tm rfl rfl rfl rfl <| tm rfl rfl rfl rfl <| tm rfl rfl rfl rfl <| wt1 (v := VP g2) rfl (fun ρ e W => zCe (q := 0) (i := 0) an25 (e _ _ rfl) (e _ _ rfl) (by omega) (by omega)) rfl rfl <| wt0 (v := .int .u64 (aN : Int)) rfl (fun ρ e W hW => zAm ty23 (e _ _ rfl) (((hW.ro 6 rfl : Blk _ g2 25 #[.int .u64 (aN : Int), .int .u64 0]).cell 0).trans rfl)) rfl rfl <| wt1 (v := .int .u64 ((j ^^^ aN : Nat) : Int)) rfl (fun ρ e W => zBp (a := j) (b := aN) (q := j ^^^ aN) (e _ _ rfl) (e _ _ rfl) (n_xor (show _ < 2 ^ 64 by omega) (show _ < 2 ^ 64 by omega)) (zAx (by omega))) rfl rfl ?_
        refine wt1 (v := VP g8) rfl (fun ρ e W => zCe (q := 0) (i := 0) an25 (e _ _ rfl) (e _ _ rfl) (by omega) (by omega)) rfl rfl <| wt0 (v := .int .u64 (P.a.toNat : Int)) rfl (fun ρ e W hW => zAm ty23 (e _ _ rfl) (((hW.ro 3 rfl : Blk _ g8 25 #[.int .u64 (P.a.toNat : Int), .int .u64 (P.b.toNat : Int)]).cell 0).trans rfl)) rfl rfl <| wt1 (v := .int .u64 ((andn (j ^^^ aN) P.a.toNat : Nat) : Int)) rfl (fun ρ e W => zBp (a := j ^^^ aN) (b := P.a.toNat) (q := andn (j ^^^ aN) P.a.toNat) (e _ _ rfl) (e _ _ rfl) rfl (zAx (BitVec.isLt _))) rfl rfl ?_
        by_cases c183 : ((andn (j ^^^ aN) P.a.toNat : Nat) : Int) = 0
        ·skip
         refine wt1 (v := .bool true) rfl (fun ρ e W => zCx (u := ((andn (j ^^^ aN) P.a.toNat : Nat) : Int)) (v := 0) (e _ _ rfl) (e _ _ rfl) (eql1 (by omega))) rfl rfl <| tm rfl rfl rfl rfl <| tm rfl rfl rfl rfl <| tm rfl rfl rfl rfl <| tm rfl rfl rfl rfl <| wt1 (v := .pointer (some ⟨b, o + i, none⟩)) rfl (fun ρ e W => zA9 (q := o + i) (i := i) el22 (e _ _ rfl) (e _ _ rfl) (by omega) (by omega)) rfl rfl <| wt0 (v := .slice At ts.length ct) rfl (fun ρ e W hW => zAm ty28 (e _ _ rfl) (((hW.old).cell (p := ⟨b, o + i, none⟩) (hD b hDb)).trans hu)) rfl rfl <| wt0 (v := .agg #[.int .u64 (aN : Int), .int .u64 0]) rfl (fun ρ e W hW => zAk (vs := [.int .u64 (aN : Int), .int .u64 0]) ty25 (e _ _ rfl) rfl (cells2 (((hW.ro 6 rfl : Blk _ g2 25 #[.int .u64 (aN : Int), .int .u64 0]).cell 0).trans rfl) (((hW.ro 6 rfl : Blk _ g2 25 #[.int .u64 (aN : Int), .int .u64 0]).cell 1).trans rfl))) rfl rfl ?_
         refine zA7 (args := [.slice At ts.length ct, .agg #[.int .u64 (aN : Int), .int .u64 0]]) rfl zFo rfl rfl rfl ?_
         refine (zCz (hT.move (fun k hk => (O182.old).block k (hD k hk))) (fun k hk => Nat.lt_of_lt_of_le (hD k hk) (O182.old).size) (m := aN) (by omega) hca).mono ?_
         rintro _ w184 ⟨rfl, hb185⟩
         have O186 := O182.below hb185
         refine ⟨_, rfl, O186, ?_⟩
         refine wt1 (v := .bool true) rfl (fun ρ e W => zDe (r := true) (e _ _ rfl) (e _ _ rfl) rfl) rfl rfl <| wt1 (v := .bool true) rfl (fun ρ e W => zBa (e _ _ rfl) (e _ _ rfl)) rfl rfl <| wt1 (v := .bool true) rfl (fun ρ e W => zA2 (e _ _ rfl) (e _ _ rfl)) rfl rfl <| wt3 (v := .bool true) rfl (fun ρ e => zBb (e _ _ rfl)) rfl rfl <| zBc <| zAn <| zAb K170 <| zAa ?_
         refine wm rfl rfl rfl <| zAe (v := .int .u64 ((j + 1 : Nat) : Int)) (fun ρ e => zAi (k := .u64) (u := (j : Int)) (v := 1) (e _ _ rfl) (e _ _ rfl) (congrArg some ((congrArg _ (show _ = ((j + 1 : Nat) : Int) by omega)).trans (zAx (by omega))))) rfl rfl <| wa rfl rfl rfl <| zAd ?_
         refine zAt K132 (j + 1, kN, true) (by show p2 - (j + 1) < p2 - j; omega) ⟨(by show j + 1 ≤ p2; omega), (by rw [hsc]; rfl), (by rw [hss]; first | rfl | (simp; done) | (have hz : andn (j ^^^ aN) P.a.toNat = 0 := Int.ofNat_eq_zero.1 c183; simp [hz]; done)), O186⟩ ⟨rfl, rfl, rfl, rfl, rfl, rfl, rfl, rfl, rfl, rfl, rfl, rfl, rfl, rfl, rfl, trivial⟩
        ·skip
         refine wt1 (v := .bool false) rfl (fun ρ e W => zCx (u := ((andn (j ^^^ aN) P.a.toNat : Nat) : Int)) (v := 0) (e _ _ rfl) (e _ _ rfl) (eql0 (by omega))) rfl rfl <| tm rfl rfl rfl rfl <| zA0 rfl rfl rfl <| zA0 rfl rfl rfl <| zA0 rfl rfl rfl <| zA0 rfl rfl rfl <| zBm rfl rfl rfl <| zBm rfl rfl rfl ?_
         refine zDi rfl rfl rfl O182 ?_
         refine zA0 rfl rfl rfl <| wt1 (v := .bool false) rfl (fun ρ e W => zA2 (e _ _ rfl) (e _ _ rfl)) rfl rfl <| wt1 (v := .bool false) rfl (fun ρ e W => zA2 (e _ _ rfl) (e _ _ rfl)) rfl rfl <| wt3 (v := .bool false) rfl (fun ρ e => zBb (e _ _ rfl)) rfl rfl <| zBc <| zAn <| zAb K170 <| zAa ?_
         refine wm rfl rfl rfl <| zAe (v := .int .u64 ((j + 1 : Nat) : Int)) (fun ρ e => zAi (k := .u64) (u := (j : Int)) (v := 1) (e _ _ rfl) (e _ _ rfl) (congrArg some ((congrArg _ (show _ = ((j + 1 : Nat) : Int) by omega)).trans (zAx (by omega))))) rfl rfl <| wa rfl rfl rfl <| zAd ?_
         refine zAt K132 (j + 1, kN, false) (by show p2 - (j + 1) < p2 - j; omega) ⟨(by show j + 1 ≤ p2; omega), (by rw [hsc]; rfl), (by rw [hss]; first | rfl | (simp; done) | (have hz : ¬ andn (j ^^^ aN) P.a.toNat = 0 := fun e => c183 (congrArg Nat.cast e); simp [hz]; done)), O182⟩ ⟨rfl, rfl, rfl, rfl, rfl, rfl, rfl, rfl, rfl, rfl, rfl, rfl, rfl, rfl, rfl, trivial⟩
       ·skip
        refine zAc fun _ K187 => zAc fun _ K188 => zAa <| wm rfl rfl rfl <| wm rfl rfl rfl <| zAe (v := .int .u64 (N : Int)) (fun ρ e => zBi (u := (N : Int)) (v := (N : Int)) (e _ _ rfl) (zAx (by omega))) rfl rfl <| zAe (v := .int .u64 (p2 : Int)) (fun ρ e => zCa (k := .u64) (a := 1) (s := N) (r := (p2 : Int)) (e _ _ rfl) (e _ _ rfl) (show _ ≤ 64 by omega) ((congrArg _ (congrArg Nat.cast ((Nat.one_mul _).trans hp2e.symm))).trans (zAx (by omega)))) rfl rfl <| wc rfl rfl (lss1 (by omega)) rfl rfl ?_
        refine zAd <| zAb K188 <| zAl rfl <| zAj <| zAb K187 <| zAc fun _ K189 => zAh <| zAc fun _ K190 => ?_
        refine zAa <| wm rfl rfl rfl <| wm rfl rfl rfl <| wi (q := o + i) (i := i) el22 rfl rfl (by omega) (by omega) rfl rfl <| wd (v := .slice At ts.length ct) ty28 rfl (((O133.old).cell (p := ⟨b, o + i, none⟩) (hD b hDb)).trans hu) rfl rfl <| wm rfl rfl rfl <| zAe (v := .agg #[.int .u64 (j : Int), .int .u64 0]) (fun ρ e => zBl (cells := #[.int .u64 (j : Int), .int .u64 0]) ar25 (e.parts rfl) rfl) rfl rfl ?_
        refine zAs (args := [.slice At ts.length ct, .agg #[.int .u64 (j : Int), .int .u64 0]]) zFo rfl rfl rfl ?_
        refine (zCz (hT.move (fun k hk => (O133.old).block k (hD k hk))) (fun k hk => Nat.lt_of_lt_of_le (hD k hk) (O133.old).size) (m := j) (by omega) hcj).mono ?_
        rintro _ w191 ⟨rfl, hb192⟩
        have O193 := O133.below hb192
        refine ⟨_, rfl, ?_⟩
        refine wa rfl rfl rfl <| zAd <| zAb K190 <| zAc fun _ K194 => zAc fun _ K195 => zAa <| wm rfl rfl rfl <| zAd ?_
        refine zAb K195 <| zAf rfl <| zAj <| zAb K194 <| zAc fun _ K196 => zAc fun _ K197 => zAa <| zAe (v := .agg #[.int .i64 (N : Int), .slice RN ((netT ts).length) cN]) (fun ρ e => zAk (vs := [.int .i64 (N : Int), .slice RN ((netT ts).length) cN]) ty39 (e _ _ rfl) rfl (O193.cells 1 0 rfl rfl)) rfl rfl ?_
        refine wm rfl rfl rfl <| zAe (v := .agg #[.int .u64 (j : Int), .int .u64 0]) (fun ρ e => zBl (cells := #[.int .u64 (j : Int), .int .u64 0]) ar25 (e.parts rfl) rfl) rfl rfl ?_
        refine zAs (args := [.agg #[.int .i64 (N : Int), .slice RN ((netT ts).length) cN], .agg #[.int .u64 (j : Int), .int .u64 0]]) zIu rfl rfl rfl ?_
        refine (zIq (m := j) (NetM.gates (O193.ro 2 rfl) (O193.get 2 rfl).2.1) hnw hnp (by omega) (by omega) (by omega) (by omega) ((hnv (asg j)).trans hcj)).mono ?_
        rintro _ w198 ⟨rfl, hb199⟩
        have O200 := O193.below hb199
        refine ⟨_, rfl, ?_⟩
        refine wm rfl rfl rfl <| zAe (v := .bool false) (fun ρ e => zDe (r := false) (e _ _ rfl) (e _ _ rfl) (by simp)) rfl rfl <| zAd <| zAb K197 <| zAf rfl <| zAj <| zAb K196 ?_
        refine zA1 (fun X => Own Z0 W X [.blk g113 43 #[.string (natB (totN N (netT ts)))], .blk g99 39 #[.int .i64 (N : Int), .slice RN ((netT ts).length) cN], .ro (fun k => k < w95.heap.size) (NetM w95.heap.size (.slice RN ((netT ts).length) cN) (netT ts)), .ro (fun k => k = g8) (fun w => Blk w g8 25 #[.int .u64 (P.a.toNat : Int), .int .u64 (P.b.toNat : Int)]), .ro (fun k => Value.ownBlock (.slice RC ((forestG fs).length) cC) = some k) (fun w => w.ownsRow 0 65 3 (.slice RC ((forestG fs).length) cC) ((forestG fs).length) (gcells (forestG fs) vsC)), .ro (fun k => k = g60) (fun w => Blk w g60 33 #[.int .i64 (N : Int), .slice RC ((forestG fs).length) cC]), .ro (fun k => k = g2) (fun w => Blk w g2 25 #[.int .u64 (aN : Int), .int .u64 0]), .ro DC (Ins DC (forestG fs) vsC), .ro DF (fun w => ForestD DF w (.slice (some ⟨b, o, none⟩) fs.length cf) fs), .ro TabD Tab, .ro TabE TabT]) 21 [(0, 1), (1, 1), (2, 1), (3, 1), (4, 0), (5, 1), (6, 1), (7, 0), (8, 1), (9, 1), (10, 1), (11, 1), (12, 1), (13, 1), (14, 1), (15, 0), (16, 0), (17, 2), (18, 1), (19, 1), (20, 1), (21, 3)] (by kernel_rfl) (by kernel_rfl) (PQ.block (PQ.then_ (PQ.then_ (PQ.block (PQ.then_ (PQ.block (PQ.then_ (PQ.then_ (PQ.block (PQ.then_ PQ.body)))))))))) (O200).drew ?_
        have O201 := O200.drew
        refine tm rfl rfl rfl rfl <| tm rfl rfl rfl rfl <| zA0 rfl rfl rfl <| zA0 rfl rfl rfl <| zBm rfl rfl rfl <| zA0 rfl rfl rfl <| zA0 rfl rfl rfl <| zBm rfl rfl rfl ?_
        refine zA0 rfl rfl rfl <| zA0 rfl rfl rfl <| zA0 rfl rfl rfl <| zA0 rfl rfl rfl <| zA0 rfl rfl rfl <| zA0 rfl rfl rfl <| zA0 rfl rfl rfl <| zBm rfl rfl rfl ?_
        refine zBm rfl rfl rfl ?_
        refine zDi rfl rfl rfl O201 ?_
        refine zA0 rfl rfl rfl <| zA0 rfl rfl rfl <| wt1 (v := .bool true) rfl (fun ρ e W => zBa (e _ _ rfl) (e _ _ rfl)) rfl rfl <| wt3 (v := .bool true) rfl (fun ρ e => zBb (e _ _ rfl)) rfl rfl <| zBc <| zAn <| zAb K189 <| zAa ?_
        refine wm rfl rfl rfl <| zAe (v := .int .u64 ((j + 1 : Nat) : Int)) (fun ρ e => zAi (k := .u64) (u := (j : Int)) (v := 1) (e _ _ rfl) (e _ _ rfl) (congrArg some ((congrArg _ (show _ = ((j + 1 : Nat) : Int) by omega)).trans (zAx (by omega))))) rfl rfl <| wa rfl rfl rfl <| zAd ?_
        refine zAt K132 (j + 1, kN, true) (by show p2 - (j + 1) < p2 - j; omega) ⟨(by show j + 1 ≤ p2; omega), (by rw [hsc]; rfl), (by rw [hss]; first | rfl | (simp; done)), O201⟩ ⟨rfl, rfl, rfl, rfl, rfl, rfl, rfl, rfl, rfl, rfl, rfl, rfl, rfl, rfl, rfl, trivial⟩
       ·skip
        refine zAc fun _ K202 => zAc fun _ K203 => zAa <| wm rfl rfl rfl <| wm rfl rfl rfl <| zAe (v := .int .u64 (N : Int)) (fun ρ e => zBi (u := (N : Int)) (v := (N : Int)) (e _ _ rfl) (zAx (by omega))) rfl rfl <| zAe (v := .int .u64 (p2 : Int)) (fun ρ e => zCa (k := .u64) (a := 1) (s := N) (r := (p2 : Int)) (e _ _ rfl) (e _ _ rfl) (show _ ≤ 64 by omega) ((congrArg _ (congrArg Nat.cast ((Nat.one_mul _).trans hp2e.symm))).trans (zAx (by omega)))) rfl rfl <| wc rfl rfl (lss1 (by omega)) rfl rfl ?_
        refine zAd <| zAb K203 <| zAl rfl <| zAj <| zAb K202 <| zAc fun _ K204 => zAh <| zAc fun _ K205 => ?_
        refine zAa <| wm rfl rfl rfl <| wm rfl rfl rfl <| wi (q := o + i) (i := i) el22 rfl rfl (by omega) (by omega) rfl rfl <| wd (v := .slice At ts.length ct) ty28 rfl (((O133.old).cell (p := ⟨b, o + i, none⟩) (hD b hDb)).trans hu) rfl rfl <| wm rfl rfl rfl <| zAe (v := .agg #[.int .u64 (j : Int), .int .u64 0]) (fun ρ e => zBl (cells := #[.int .u64 (j : Int), .int .u64 0]) ar25 (e.parts rfl) rfl) rfl rfl ?_
        refine zAs (args := [.slice At ts.length ct, .agg #[.int .u64 (j : Int), .int .u64 0]]) zFo rfl rfl rfl ?_
        refine (zCz (hT.move (fun k hk => (O133.old).block k (hD k hk))) (fun k hk => Nat.lt_of_lt_of_le (hD k hk) (O133.old).size) (m := j) (by omega) hcj).mono ?_
        rintro _ w206 ⟨rfl, hb207⟩
        have O208 := O133.below hb207
        refine ⟨_, rfl, ?_⟩
        refine wa rfl rfl rfl <| zAd <| zAb K205 <| zAc fun _ K209 => zAc fun _ K210 => zAa <| wm rfl rfl rfl <| zAd ?_
        refine zAb K210 <| zAl rfl <| zAa <| wm rfl rfl rfl <| zAe (v := .int .u64 ((kN + 1 : Nat) : Int)) (fun ρ e => zAi (k := .u64) (u := (kN : Int)) (v := 1) (e _ _ rfl) (e _ _ rfl) (congrArg some ((congrArg _ (show _ = ((kN + 1 : Nat) : Int) by omega)).trans (zAx (by omega))))) rfl rfl <| wa rfl rfl rfl <| zAd <| zAb K209 ?_
        refine zAc fun _ K211 => zAc fun _ K212 => zAa <| zAe (v := .agg #[.int .i64 (N : Int), .slice RN ((netT ts).length) cN]) (fun ρ e => zAk (vs := [.int .i64 (N : Int), .slice RN ((netT ts).length) cN]) ty39 (e _ _ rfl) rfl (O208.cells 1 0 rfl rfl)) rfl rfl <| wm rfl rfl rfl <| zAe (v := .agg #[.int .u64 (j : Int), .int .u64 0]) (fun ρ e => zBl (cells := #[.int .u64 (j : Int), .int .u64 0]) ar25 (e.parts rfl) rfl) rfl rfl ?_
        refine zAs (args := [.agg #[.int .i64 (N : Int), .slice RN ((netT ts).length) cN], .agg #[.int .u64 (j : Int), .int .u64 0]]) zIu rfl rfl rfl ?_
        refine (zIq (m := j) (NetM.gates (O208.ro 2 rfl) (O208.get 2 rfl).2.1) hnw hnp (by omega) (by omega) (by omega) (by omega) ((hnv (asg j)).trans hcj)).mono ?_
        rintro _ w213 ⟨rfl, hb214⟩
        have O215 := O208.below hb214
        refine ⟨_, rfl, ?_⟩
        refine wm rfl rfl rfl <| zAe (v := .bool false) (fun ρ e => zDe (r := false) (e _ _ rfl) (e _ _ rfl) (by simp)) rfl rfl <| zAd <| zAb K212 <| zAf rfl <| zAj <| zAb K211 ?_
        refine zA1 (fun X => Own Z0 W X [.blk g113 43 #[.string (natB (totN N (netT ts)))], .blk g99 39 #[.int .i64 (N : Int), .slice RN ((netT ts).length) cN], .ro (fun k => k < w95.heap.size) (NetM w95.heap.size (.slice RN ((netT ts).length) cN) (netT ts)), .ro (fun k => k = g8) (fun w => Blk w g8 25 #[.int .u64 (P.a.toNat : Int), .int .u64 (P.b.toNat : Int)]), .ro (fun k => Value.ownBlock (.slice RC ((forestG fs).length) cC) = some k) (fun w => w.ownsRow 0 65 3 (.slice RC ((forestG fs).length) cC) ((forestG fs).length) (gcells (forestG fs) vsC)), .ro (fun k => k = g60) (fun w => Blk w g60 33 #[.int .i64 (N : Int), .slice RC ((forestG fs).length) cC]), .ro (fun k => k = g2) (fun w => Blk w g2 25 #[.int .u64 (aN : Int), .int .u64 0]), .ro DC (Ins DC (forestG fs) vsC), .ro DF (fun w => ForestD DF w (.slice (some ⟨b, o, none⟩) fs.length cf) fs), .ro TabD Tab, .ro TabE TabT]) 21 [(0, 1), (1, 1), (2, 1), (3, 1), (4, 0), (5, 1), (6, 1), (7, 0), (8, 1), (9, 1), (10, 1), (11, 1), (12, 1), (13, 1), (14, 1), (15, 0), (16, 0), (17, 2), (18, 1), (19, 1), (20, 1), (21, 3)] (by kernel_rfl) (by kernel_rfl) (PQ.block (PQ.then_ (PQ.then_ (PQ.block (PQ.then_ (PQ.block (PQ.then_ (PQ.then_ (PQ.block (PQ.then_ PQ.body)))))))))) (O215).drew ?_
        have O216 := O215.drew
        refine tm rfl rfl rfl rfl <| tm rfl rfl rfl rfl <| tm rfl rfl rfl rfl <| wt1 (v := VP g2) rfl (fun ρ e W => zCe (q := 0) (i := 0) an25 (e _ _ rfl) (e _ _ rfl) (by omega) (by omega)) rfl rfl <| wt0 (v := .int .u64 (aN : Int)) rfl (fun ρ e W hW => zAm ty23 (e _ _ rfl) (((hW.ro 6 rfl : Blk _ g2 25 #[.int .u64 (aN : Int), .int .u64 0]).cell 0).trans rfl)) rfl rfl <| wt1 (v := .int .u64 ((j ^^^ aN : Nat) : Int)) rfl (fun ρ e W => zBp (a := j) (b := aN) (q := j ^^^ aN) (e _ _ rfl) (e _ _ rfl) (n_xor (show _ < 2 ^ 64 by omega) (show _ < 2 ^ 64 by omega)) (zAx (by omega))) rfl rfl ?_
        refine wt1 (v := VP g8) rfl (fun ρ e W => zCe (q := 0) (i := 0) an25 (e _ _ rfl) (e _ _ rfl) (by omega) (by omega)) rfl rfl <| wt0 (v := .int .u64 (P.a.toNat : Int)) rfl (fun ρ e W hW => zAm ty23 (e _ _ rfl) (((hW.ro 3 rfl : Blk _ g8 25 #[.int .u64 (P.a.toNat : Int), .int .u64 (P.b.toNat : Int)]).cell 0).trans rfl)) rfl rfl <| wt1 (v := .int .u64 ((andn (j ^^^ aN) P.a.toNat : Nat) : Int)) rfl (fun ρ e W => zBp (a := j ^^^ aN) (b := P.a.toNat) (q := andn (j ^^^ aN) P.a.toNat) (e _ _ rfl) (e _ _ rfl) rfl (zAx (BitVec.isLt _))) rfl rfl ?_
        by_cases c217 : ((andn (j ^^^ aN) P.a.toNat : Nat) : Int) = 0
        ·skip
         refine wt1 (v := .bool true) rfl (fun ρ e W => zCx (u := ((andn (j ^^^ aN) P.a.toNat : Nat) : Int)) (v := 0) (e _ _ rfl) (e _ _ rfl) (eql1 (by omega))) rfl rfl <| tm rfl rfl rfl rfl <| tm rfl rfl rfl rfl <| tm rfl rfl rfl rfl <| tm rfl rfl rfl rfl <| wt1 (v := .pointer (some ⟨b, o + i, none⟩)) rfl (fun ρ e W => zA9 (q := o + i) (i := i) el22 (e _ _ rfl) (e _ _ rfl) (by omega) (by omega)) rfl rfl <| wt0 (v := .slice At ts.length ct) rfl (fun ρ e W hW => zAm ty28 (e _ _ rfl) (((hW.old).cell (p := ⟨b, o + i, none⟩) (hD b hDb)).trans hu)) rfl rfl <| wt0 (v := .agg #[.int .u64 (aN : Int), .int .u64 0]) rfl (fun ρ e W hW => zAk (vs := [.int .u64 (aN : Int), .int .u64 0]) ty25 (e _ _ rfl) rfl (cells2 (((hW.ro 6 rfl : Blk _ g2 25 #[.int .u64 (aN : Int), .int .u64 0]).cell 0).trans rfl) (((hW.ro 6 rfl : Blk _ g2 25 #[.int .u64 (aN : Int), .int .u64 0]).cell 1).trans rfl))) rfl rfl ?_
         refine zA7 (args := [.slice At ts.length ct, .agg #[.int .u64 (aN : Int), .int .u64 0]]) rfl zFo rfl rfl rfl ?_
         refine (zCz (hT.move (fun k hk => (O216.old).block k (hD k hk))) (fun k hk => Nat.lt_of_lt_of_le (hD k hk) (O216.old).size) (m := aN) (by omega) hca).mono ?_
         rintro _ w218 ⟨rfl, hb219⟩
         have O220 := O216.below hb219
         refine ⟨_, rfl, O220, ?_⟩
         refine wt1 (v := .bool true) rfl (fun ρ e W => zDe (r := true) (e _ _ rfl) (e _ _ rfl) rfl) rfl rfl <| wt1 (v := .bool true) rfl (fun ρ e W => zBa (e _ _ rfl) (e _ _ rfl)) rfl rfl <| wt1 (v := .bool true) rfl (fun ρ e W => zA2 (e _ _ rfl) (e _ _ rfl)) rfl rfl <| wt3 (v := .bool true) rfl (fun ρ e => zBb (e _ _ rfl)) rfl rfl <| zBc <| zAn <| zAb K204 <| zAa ?_
         refine wm rfl rfl rfl <| zAe (v := .int .u64 ((j + 1 : Nat) : Int)) (fun ρ e => zAi (k := .u64) (u := (j : Int)) (v := 1) (e _ _ rfl) (e _ _ rfl) (congrArg some ((congrArg _ (show _ = ((j + 1 : Nat) : Int) by omega)).trans (zAx (by omega))))) rfl rfl <| wa rfl rfl rfl <| zAd ?_
         refine zAt K132 (j + 1, (kN + 1), true) (by show p2 - (j + 1) < p2 - j; omega) ⟨(by show j + 1 ≤ p2; omega), (by rw [hsc]; rfl), (by rw [hss]; first | rfl | (simp; done) | (have hz : andn (j ^^^ aN) P.a.toNat = 0 := Int.ofNat_eq_zero.1 c217; simp [hz]; done)), O220⟩ ⟨rfl, rfl, rfl, rfl, rfl, rfl, rfl, rfl, rfl, rfl, rfl, rfl, rfl, rfl, rfl, trivial⟩
        ·skip
         refine wt1 (v := .bool false) rfl (fun ρ e W => zCx (u := ((andn (j ^^^ aN) P.a.toNat : Nat) : Int)) (v := 0) (e _ _ rfl) (e _ _ rfl) (eql0 (by omega))) rfl rfl <| tm rfl rfl rfl rfl <| zA0 rfl rfl rfl <| zA0 rfl rfl rfl <| zA0 rfl rfl rfl <| zA0 rfl rfl rfl <| zBm rfl rfl rfl <| zBm rfl rfl rfl ?_
         refine zDi rfl rfl rfl O216 ?_
         refine zA0 rfl rfl rfl <| wt1 (v := .bool false) rfl (fun ρ e W => zA2 (e _ _ rfl) (e _ _ rfl)) rfl rfl <| wt1 (v := .bool false) rfl (fun ρ e W => zA2 (e _ _ rfl) (e _ _ rfl)) rfl rfl <| wt3 (v := .bool false) rfl (fun ρ e => zBb (e _ _ rfl)) rfl rfl <| zBc <| zAn <| zAb K204 <| zAa ?_
         refine wm rfl rfl rfl <| zAe (v := .int .u64 ((j + 1 : Nat) : Int)) (fun ρ e => zAi (k := .u64) (u := (j : Int)) (v := 1) (e _ _ rfl) (e _ _ rfl) (congrArg some ((congrArg _ (show _ = ((j + 1 : Nat) : Int) by omega)).trans (zAx (by omega))))) rfl rfl <| wa rfl rfl rfl <| zAd ?_
         refine zAt K132 (j + 1, (kN + 1), false) (by show p2 - (j + 1) < p2 - j; omega) ⟨(by show j + 1 ≤ p2; omega), (by rw [hsc]; rfl), (by rw [hss]; first | rfl | (simp; done) | (have hz : ¬ andn (j ^^^ aN) P.a.toNat = 0 := fun e => c217 (congrArg Nat.cast e); simp [hz]; done)), O216⟩ ⟨rfl, rfl, rfl, rfl, rfl, rfl, rfl, rfl, rfl, rfl, rfl, rfl, rfl, rfl, rfl, trivial⟩
       ·skip
        refine zAc fun _ K221 => zAc fun _ K222 => zAa <| wm rfl rfl rfl <| wm rfl rfl rfl <| zAe (v := .int .u64 (N : Int)) (fun ρ e => zBi (u := (N : Int)) (v := (N : Int)) (e _ _ rfl) (zAx (by omega))) rfl rfl <| zAe (v := .int .u64 (p2 : Int)) (fun ρ e => zCa (k := .u64) (a := 1) (s := N) (r := (p2 : Int)) (e _ _ rfl) (e _ _ rfl) (show _ ≤ 64 by omega) ((congrArg _ (congrArg Nat.cast ((Nat.one_mul _).trans hp2e.symm))).trans (zAx (by omega)))) rfl rfl <| wc rfl rfl (lss1 (by omega)) rfl rfl ?_
        refine zAd <| zAb K222 <| zAl rfl <| zAj <| zAb K221 <| zAc fun _ K223 => zAh <| zAc fun _ K224 => ?_
        refine zAa <| wm rfl rfl rfl <| wm rfl rfl rfl <| wi (q := o + i) (i := i) el22 rfl rfl (by omega) (by omega) rfl rfl <| wd (v := .slice At ts.length ct) ty28 rfl (((O133.old).cell (p := ⟨b, o + i, none⟩) (hD b hDb)).trans hu) rfl rfl <| wm rfl rfl rfl <| zAe (v := .agg #[.int .u64 (j : Int), .int .u64 0]) (fun ρ e => zBl (cells := #[.int .u64 (j : Int), .int .u64 0]) ar25 (e.parts rfl) rfl) rfl rfl ?_
        refine zAs (args := [.slice At ts.length ct, .agg #[.int .u64 (j : Int), .int .u64 0]]) zFo rfl rfl rfl ?_
        refine (zCz (hT.move (fun k hk => (O133.old).block k (hD k hk))) (fun k hk => Nat.lt_of_lt_of_le (hD k hk) (O133.old).size) (m := j) (by omega) hcj).mono ?_
        rintro _ w225 ⟨rfl, hb226⟩
        have O227 := O133.below hb226
        refine ⟨_, rfl, ?_⟩
        refine wa rfl rfl rfl <| zAd <| zAb K224 <| zAc fun _ K228 => zAc fun _ K229 => zAa <| wm rfl rfl rfl <| zAd ?_
        refine zAb K229 <| zAl rfl <| zAa <| wm rfl rfl rfl <| zAe (v := .int .u64 ((kN + 1 : Nat) : Int)) (fun ρ e => zAi (k := .u64) (u := (kN : Int)) (v := 1) (e _ _ rfl) (e _ _ rfl) (congrArg some ((congrArg _ (show _ = ((kN + 1 : Nat) : Int) by omega)).trans (zAx (by omega))))) rfl rfl <| wa rfl rfl rfl <| zAd <| zAb K228 ?_
        refine zAc fun _ K230 => zAc fun _ K231 => zAa <| zAe (v := .agg #[.int .i64 (N : Int), .slice RN ((netT ts).length) cN]) (fun ρ e => zAk (vs := [.int .i64 (N : Int), .slice RN ((netT ts).length) cN]) ty39 (e _ _ rfl) rfl (O227.cells 1 0 rfl rfl)) rfl rfl <| wm rfl rfl rfl <| zAe (v := .agg #[.int .u64 (j : Int), .int .u64 0]) (fun ρ e => zBl (cells := #[.int .u64 (j : Int), .int .u64 0]) ar25 (e.parts rfl) rfl) rfl rfl ?_
        refine zAs (args := [.agg #[.int .i64 (N : Int), .slice RN ((netT ts).length) cN], .agg #[.int .u64 (j : Int), .int .u64 0]]) zIu rfl rfl rfl ?_
        refine (zIq (m := j) (NetM.gates (O227.ro 2 rfl) (O227.get 2 rfl).2.1) hnw hnp (by omega) (by omega) (by omega) (by omega) ((hnv (asg j)).trans hcj)).mono ?_
        rintro _ w232 ⟨rfl, hb233⟩
        have O234 := O227.below hb233
        refine ⟨_, rfl, ?_⟩
        refine wm rfl rfl rfl <| zAe (v := .bool false) (fun ρ e => zDe (r := false) (e _ _ rfl) (e _ _ rfl) (by simp)) rfl rfl <| zAd <| zAb K231 <| zAf rfl <| zAj <| zAb K230 ?_
        refine zA1 (fun X => Own Z0 W X [.blk g113 43 #[.string (natB (totN N (netT ts)))], .blk g99 39 #[.int .i64 (N : Int), .slice RN ((netT ts).length) cN], .ro (fun k => k < w95.heap.size) (NetM w95.heap.size (.slice RN ((netT ts).length) cN) (netT ts)), .ro (fun k => k = g8) (fun w => Blk w g8 25 #[.int .u64 (P.a.toNat : Int), .int .u64 (P.b.toNat : Int)]), .ro (fun k => Value.ownBlock (.slice RC ((forestG fs).length) cC) = some k) (fun w => w.ownsRow 0 65 3 (.slice RC ((forestG fs).length) cC) ((forestG fs).length) (gcells (forestG fs) vsC)), .ro (fun k => k = g60) (fun w => Blk w g60 33 #[.int .i64 (N : Int), .slice RC ((forestG fs).length) cC]), .ro (fun k => k = g2) (fun w => Blk w g2 25 #[.int .u64 (aN : Int), .int .u64 0]), .ro DC (Ins DC (forestG fs) vsC), .ro DF (fun w => ForestD DF w (.slice (some ⟨b, o, none⟩) fs.length cf) fs), .ro TabD Tab, .ro TabE TabT]) 21 [(0, 1), (1, 1), (2, 1), (3, 1), (4, 0), (5, 1), (6, 1), (7, 0), (8, 1), (9, 1), (10, 1), (11, 1), (12, 1), (13, 1), (14, 1), (15, 0), (16, 0), (17, 2), (18, 1), (19, 1), (20, 1), (21, 3)] (by kernel_rfl) (by kernel_rfl) (PQ.block (PQ.then_ (PQ.then_ (PQ.block (PQ.then_ (PQ.block (PQ.then_ (PQ.then_ (PQ.block (PQ.then_ PQ.body)))))))))) (O234).drew ?_
        have O235 := O234.drew
        refine tm rfl rfl rfl rfl <| tm rfl rfl rfl rfl <| zA0 rfl rfl rfl <| zA0 rfl rfl rfl <| zBm rfl rfl rfl <| zA0 rfl rfl rfl <| zA0 rfl rfl rfl <| zBm rfl rfl rfl ?_
        refine zA0 rfl rfl rfl <| zA0 rfl rfl rfl <| zA0 rfl rfl rfl <| zA0 rfl rfl rfl <| zA0 rfl rfl rfl <| zA0 rfl rfl rfl <| zA0 rfl rfl rfl <| zBm rfl rfl rfl ?_
        refine zBm rfl rfl rfl ?_
        refine zDi rfl rfl rfl O235 ?_
        refine zA0 rfl rfl rfl <| zA0 rfl rfl rfl <| wt1 (v := .bool true) rfl (fun ρ e W => zBa (e _ _ rfl) (e _ _ rfl)) rfl rfl <| wt3 (v := .bool true) rfl (fun ρ e => zBb (e _ _ rfl)) rfl rfl <| zBc <| zAn <| zAb K223 <| zAa ?_
        refine wm rfl rfl rfl <| zAe (v := .int .u64 ((j + 1 : Nat) : Int)) (fun ρ e => zAi (k := .u64) (u := (j : Int)) (v := 1) (e _ _ rfl) (e _ _ rfl) (congrArg some ((congrArg _ (show _ = ((j + 1 : Nat) : Int) by omega)).trans (zAx (by omega))))) rfl rfl <| wa rfl rfl rfl <| zAd ?_
        refine zAt K132 (j + 1, (kN + 1), true) (by show p2 - (j + 1) < p2 - j; omega) ⟨(by show j + 1 ≤ p2; omega), (by rw [hsc]; rfl), (by rw [hss]; first | rfl | (simp; done)), O235⟩ ⟨rfl, rfl, rfl, rfl, rfl, rfl, rfl, rfl, rfl, rfl, rfl, rfl, rfl, rfl, rfl, trivial⟩
       ·skip
        refine zAc fun _ K236 => zAc fun _ K237 => zAa <| wm rfl rfl rfl <| wm rfl rfl rfl <| zAe (v := .int .u64 (N : Int)) (fun ρ e => zBi (u := (N : Int)) (v := (N : Int)) (e _ _ rfl) (zAx (by omega))) rfl rfl <| zAe (v := .int .u64 (p2 : Int)) (fun ρ e => zCa (k := .u64) (a := 1) (s := N) (r := (p2 : Int)) (e _ _ rfl) (e _ _ rfl) (show _ ≤ 64 by omega) ((congrArg _ (congrArg Nat.cast ((Nat.one_mul _).trans hp2e.symm))).trans (zAx (by omega)))) rfl rfl <| wc rfl rfl (lss1 (by omega)) rfl rfl ?_
        refine zAd <| zAb K237 <| zAl rfl <| zAj <| zAb K236 <| zAc fun _ K238 => zAh <| zAc fun _ K239 => ?_
        refine zAa <| wm rfl rfl rfl <| wm rfl rfl rfl <| wi (q := o + i) (i := i) el22 rfl rfl (by omega) (by omega) rfl rfl <| wd (v := .slice At ts.length ct) ty28 rfl (((O133.old).cell (p := ⟨b, o + i, none⟩) (hD b hDb)).trans hu) rfl rfl <| wm rfl rfl rfl <| zAe (v := .agg #[.int .u64 (j : Int), .int .u64 0]) (fun ρ e => zBl (cells := #[.int .u64 (j : Int), .int .u64 0]) ar25 (e.parts rfl) rfl) rfl rfl ?_
        refine zAs (args := [.slice At ts.length ct, .agg #[.int .u64 (j : Int), .int .u64 0]]) zFo rfl rfl rfl ?_
        refine (zCz (hT.move (fun k hk => (O133.old).block k (hD k hk))) (fun k hk => Nat.lt_of_lt_of_le (hD k hk) (O133.old).size) (m := j) (by omega) hcj).mono ?_
        rintro _ w240 ⟨rfl, hb241⟩
        have O242 := O133.below hb241
        refine ⟨_, rfl, ?_⟩
        refine wa rfl rfl rfl <| zAd <| zAb K239 <| zAc fun _ K243 => zAc fun _ K244 => zAa <| wm rfl rfl rfl <| zAd ?_
        refine zAb K244 <| zAl rfl <| zAa <| wm rfl rfl rfl <| zAe (v := .int .u64 ((kN + 1 : Nat) : Int)) (fun ρ e => zAi (k := .u64) (u := (kN : Int)) (v := 1) (e _ _ rfl) (e _ _ rfl) (congrArg some ((congrArg _ (show _ = ((kN + 1 : Nat) : Int) by omega)).trans (zAx (by omega))))) rfl rfl <| wa rfl rfl rfl <| zAd <| zAb K243 ?_
        refine zAc fun _ K245 => zAc fun _ K246 => zAa <| zAe (v := .agg #[.int .i64 (N : Int), .slice RN ((netT ts).length) cN]) (fun ρ e => zAk (vs := [.int .i64 (N : Int), .slice RN ((netT ts).length) cN]) ty39 (e _ _ rfl) rfl (O242.cells 1 0 rfl rfl)) rfl rfl <| wm rfl rfl rfl <| zAe (v := .agg #[.int .u64 (j : Int), .int .u64 0]) (fun ρ e => zBl (cells := #[.int .u64 (j : Int), .int .u64 0]) ar25 (e.parts rfl) rfl) rfl rfl ?_
        refine zAs (args := [.agg #[.int .i64 (N : Int), .slice RN ((netT ts).length) cN], .agg #[.int .u64 (j : Int), .int .u64 0]]) zIu rfl rfl rfl ?_
        refine (zIq (m := j) (NetM.gates (O242.ro 2 rfl) (O242.get 2 rfl).2.1) hnw hnp (by omega) (by omega) (by omega) (by omega) ((hnv (asg j)).trans hcj)).mono ?_
        rintro _ w247 ⟨rfl, hb248⟩
        have O249 := O242.below hb248
        refine ⟨_, rfl, ?_⟩
        refine wm rfl rfl rfl <| zAe (v := .bool false) (fun ρ e => zDe (r := false) (e _ _ rfl) (e _ _ rfl) (by simp)) rfl rfl <| zAd <| zAb K246 <| zAf rfl <| zAj <| zAb K245 ?_
        refine zA1 (fun X => Own Z0 W X [.blk g113 43 #[.string (natB (totN N (netT ts)))], .blk g99 39 #[.int .i64 (N : Int), .slice RN ((netT ts).length) cN], .ro (fun k => k < w95.heap.size) (NetM w95.heap.size (.slice RN ((netT ts).length) cN) (netT ts)), .ro (fun k => k = g8) (fun w => Blk w g8 25 #[.int .u64 (P.a.toNat : Int), .int .u64 (P.b.toNat : Int)]), .ro (fun k => Value.ownBlock (.slice RC ((forestG fs).length) cC) = some k) (fun w => w.ownsRow 0 65 3 (.slice RC ((forestG fs).length) cC) ((forestG fs).length) (gcells (forestG fs) vsC)), .ro (fun k => k = g60) (fun w => Blk w g60 33 #[.int .i64 (N : Int), .slice RC ((forestG fs).length) cC]), .ro (fun k => k = g2) (fun w => Blk w g2 25 #[.int .u64 (aN : Int), .int .u64 0]), .ro DC (Ins DC (forestG fs) vsC), .ro DF (fun w => ForestD DF w (.slice (some ⟨b, o, none⟩) fs.length cf) fs), .ro TabD Tab, .ro TabE TabT]) 21 [(0, 1), (1, 1), (2, 1), (3, 1), (4, 0), (5, 1), (6, 1), (7, 0), (8, 1), (9, 1), (10, 1), (11, 1), (12, 1), (13, 1), (14, 1), (15, 0), (16, 0), (17, 2), (18, 1), (19, 1), (20, 1), (21, 3)] (by kernel_rfl) (by kernel_rfl) (PQ.block (PQ.then_ (PQ.then_ (PQ.block (PQ.then_ (PQ.block (PQ.then_ (PQ.then_ (PQ.block (PQ.then_ PQ.body)))))))))) (O249).drew ?_
        have O250 := O249.drew
        refine tm rfl rfl rfl rfl <| tm rfl rfl rfl rfl <| tm rfl rfl rfl rfl <| wt1 (v := VP g2) rfl (fun ρ e W => zCe (q := 0) (i := 0) an25 (e _ _ rfl) (e _ _ rfl) (by omega) (by omega)) rfl rfl <| wt0 (v := .int .u64 (aN : Int)) rfl (fun ρ e W hW => zAm ty23 (e _ _ rfl) (((hW.ro 6 rfl : Blk _ g2 25 #[.int .u64 (aN : Int), .int .u64 0]).cell 0).trans rfl)) rfl rfl <| wt1 (v := .int .u64 ((j ^^^ aN : Nat) : Int)) rfl (fun ρ e W => zBp (a := j) (b := aN) (q := j ^^^ aN) (e _ _ rfl) (e _ _ rfl) (n_xor (show _ < 2 ^ 64 by omega) (show _ < 2 ^ 64 by omega)) (zAx (by omega))) rfl rfl ?_
        refine wt1 (v := VP g8) rfl (fun ρ e W => zCe (q := 0) (i := 0) an25 (e _ _ rfl) (e _ _ rfl) (by omega) (by omega)) rfl rfl <| wt0 (v := .int .u64 (P.a.toNat : Int)) rfl (fun ρ e W hW => zAm ty23 (e _ _ rfl) (((hW.ro 3 rfl : Blk _ g8 25 #[.int .u64 (P.a.toNat : Int), .int .u64 (P.b.toNat : Int)]).cell 0).trans rfl)) rfl rfl <| wt1 (v := .int .u64 ((andn (j ^^^ aN) P.a.toNat : Nat) : Int)) rfl (fun ρ e W => zBp (a := j ^^^ aN) (b := P.a.toNat) (q := andn (j ^^^ aN) P.a.toNat) (e _ _ rfl) (e _ _ rfl) rfl (zAx (BitVec.isLt _))) rfl rfl ?_
        by_cases c251 : ((andn (j ^^^ aN) P.a.toNat : Nat) : Int) = 0
        ·skip
         refine wt1 (v := .bool true) rfl (fun ρ e W => zCx (u := ((andn (j ^^^ aN) P.a.toNat : Nat) : Int)) (v := 0) (e _ _ rfl) (e _ _ rfl) (eql1 (by omega))) rfl rfl <| tm rfl rfl rfl rfl <| tm rfl rfl rfl rfl <| tm rfl rfl rfl rfl <| tm rfl rfl rfl rfl <| wt1 (v := .pointer (some ⟨b, o + i, none⟩)) rfl (fun ρ e W => zA9 (q := o + i) (i := i) el22 (e _ _ rfl) (e _ _ rfl) (by omega) (by omega)) rfl rfl <| wt0 (v := .slice At ts.length ct) rfl (fun ρ e W hW => zAm ty28 (e _ _ rfl) (((hW.old).cell (p := ⟨b, o + i, none⟩) (hD b hDb)).trans hu)) rfl rfl <| wt0 (v := .agg #[.int .u64 (aN : Int), .int .u64 0]) rfl (fun ρ e W hW => zAk (vs := [.int .u64 (aN : Int), .int .u64 0]) ty25 (e _ _ rfl) rfl (cells2 (((hW.ro 6 rfl : Blk _ g2 25 #[.int .u64 (aN : Int), .int .u64 0]).cell 0).trans rfl) (((hW.ro 6 rfl : Blk _ g2 25 #[.int .u64 (aN : Int), .int .u64 0]).cell 1).trans rfl))) rfl rfl ?_
         refine zA7 (args := [.slice At ts.length ct, .agg #[.int .u64 (aN : Int), .int .u64 0]]) rfl zFo rfl rfl rfl ?_
         refine (zCz (hT.move (fun k hk => (O250.old).block k (hD k hk))) (fun k hk => Nat.lt_of_lt_of_le (hD k hk) (O250.old).size) (m := aN) (by omega) hca).mono ?_
         rintro _ w252 ⟨rfl, hb253⟩
         have O254 := O250.below hb253
         refine ⟨_, rfl, O254, ?_⟩
         refine wt1 (v := .bool false) rfl (fun ρ e W => zDe (r := false) (e _ _ rfl) (e _ _ rfl) (by simp)) rfl rfl <| wt1 (v := .bool false) rfl (fun ρ e W => zBa (e _ _ rfl) (e _ _ rfl)) rfl rfl <| wt1 (v := .bool false) rfl (fun ρ e W => zA2 (e _ _ rfl) (e _ _ rfl)) rfl rfl <| wt3 (v := .bool false) rfl (fun ρ e => zBb (e _ _ rfl)) rfl rfl <| zBc <| zAn <| zAb K238 <| zAa ?_
         refine wm rfl rfl rfl <| zAe (v := .int .u64 ((j + 1 : Nat) : Int)) (fun ρ e => zAi (k := .u64) (u := (j : Int)) (v := 1) (e _ _ rfl) (e _ _ rfl) (congrArg some ((congrArg _ (show _ = ((j + 1 : Nat) : Int) by omega)).trans (zAx (by omega))))) rfl rfl <| wa rfl rfl rfl <| zAd ?_
         refine zAt K132 (j + 1, (kN + 1), false) (by show p2 - (j + 1) < p2 - j; omega) ⟨(by show j + 1 ≤ p2; omega), (by rw [hsc]; rfl), (by rw [hss]; first | rfl | (simp; done) | (have hz : andn (j ^^^ aN) P.a.toNat = 0 := Int.ofNat_eq_zero.1 c251; simp [hz]; done)), O254⟩ ⟨rfl, rfl, rfl, rfl, rfl, rfl, rfl, rfl, rfl, rfl, rfl, rfl, rfl, rfl, rfl, trivial⟩
        ·skip
         refine wt1 (v := .bool false) rfl (fun ρ e W => zCx (u := ((andn (j ^^^ aN) P.a.toNat : Nat) : Int)) (v := 0) (e _ _ rfl) (e _ _ rfl) (eql0 (by omega))) rfl rfl <| tm rfl rfl rfl rfl <| zA0 rfl rfl rfl <| zA0 rfl rfl rfl <| zA0 rfl rfl rfl <| zA0 rfl rfl rfl <| zBm rfl rfl rfl <| zBm rfl rfl rfl ?_
         refine zDi rfl rfl rfl O250 ?_
         refine zA0 rfl rfl rfl <| wt1 (v := .bool false) rfl (fun ρ e W => zA2 (e _ _ rfl) (e _ _ rfl)) rfl rfl <| wt1 (v := .bool false) rfl (fun ρ e W => zA2 (e _ _ rfl) (e _ _ rfl)) rfl rfl <| wt3 (v := .bool false) rfl (fun ρ e => zBb (e _ _ rfl)) rfl rfl <| zBc <| zAn <| zAb K238 <| zAa ?_
         refine wm rfl rfl rfl <| zAe (v := .int .u64 ((j + 1 : Nat) : Int)) (fun ρ e => zAi (k := .u64) (u := (j : Int)) (v := 1) (e _ _ rfl) (e _ _ rfl) (congrArg some ((congrArg _ (show _ = ((j + 1 : Nat) : Int) by omega)).trans (zAx (by omega))))) rfl rfl <| wa rfl rfl rfl <| zAd ?_
         refine zAt K132 (j + 1, (kN + 1), false) (by show p2 - (j + 1) < p2 - j; omega) ⟨(by show j + 1 ≤ p2; omega), (by rw [hsc]; rfl), (by rw [hss]; first | rfl | (simp; done) | (have hz : ¬ andn (j ^^^ aN) P.a.toNat = 0 := fun e => c251 (congrArg Nat.cast e); simp [hz]; done)), O250⟩ ⟨rfl, rfl, rfl, rfl, rfl, rfl, rfl, rfl, rfl, rfl, rfl, rfl, rfl, rfl, rfl, trivial⟩
       ·skip
        refine zAc fun _ K255 => zAc fun _ K256 => zAa <| wm rfl rfl rfl <| wm rfl rfl rfl <| zAe (v := .int .u64 (N : Int)) (fun ρ e => zBi (u := (N : Int)) (v := (N : Int)) (e _ _ rfl) (zAx (by omega))) rfl rfl <| zAe (v := .int .u64 (p2 : Int)) (fun ρ e => zCa (k := .u64) (a := 1) (s := N) (r := (p2 : Int)) (e _ _ rfl) (e _ _ rfl) (show _ ≤ 64 by omega) ((congrArg _ (congrArg Nat.cast ((Nat.one_mul _).trans hp2e.symm))).trans (zAx (by omega)))) rfl rfl <| wc rfl rfl (lss1 (by omega)) rfl rfl ?_
        refine zAd <| zAb K256 <| zAl rfl <| zAj <| zAb K255 <| zAc fun _ K257 => zAh <| zAc fun _ K258 => ?_
        refine zAa <| wm rfl rfl rfl <| wm rfl rfl rfl <| wi (q := o + i) (i := i) el22 rfl rfl (by omega) (by omega) rfl rfl <| wd (v := .slice At ts.length ct) ty28 rfl (((O133.old).cell (p := ⟨b, o + i, none⟩) (hD b hDb)).trans hu) rfl rfl <| wm rfl rfl rfl <| zAe (v := .agg #[.int .u64 (j : Int), .int .u64 0]) (fun ρ e => zBl (cells := #[.int .u64 (j : Int), .int .u64 0]) ar25 (e.parts rfl) rfl) rfl rfl ?_
        refine zAs (args := [.slice At ts.length ct, .agg #[.int .u64 (j : Int), .int .u64 0]]) zFo rfl rfl rfl ?_
        refine (zCz (hT.move (fun k hk => (O133.old).block k (hD k hk))) (fun k hk => Nat.lt_of_lt_of_le (hD k hk) (O133.old).size) (m := j) (by omega) hcj).mono ?_
        rintro _ w259 ⟨rfl, hb260⟩
        have O261 := O133.below hb260
        refine ⟨_, rfl, ?_⟩
        refine wa rfl rfl rfl <| zAd <| zAb K258 <| zAc fun _ K262 => zAc fun _ K263 => zAa <| wm rfl rfl rfl <| zAd ?_
        refine zAb K263 <| zAl rfl <| zAa <| wm rfl rfl rfl <| zAe (v := .int .u64 ((kN + 1 : Nat) : Int)) (fun ρ e => zAi (k := .u64) (u := (kN : Int)) (v := 1) (e _ _ rfl) (e _ _ rfl) (congrArg some ((congrArg _ (show _ = ((kN + 1 : Nat) : Int) by omega)).trans (zAx (by omega))))) rfl rfl <| wa rfl rfl rfl <| zAd <| zAb K262 ?_
        refine zAc fun _ K264 => zAc fun _ K265 => zAa <| zAe (v := .agg #[.int .i64 (N : Int), .slice RN ((netT ts).length) cN]) (fun ρ e => zAk (vs := [.int .i64 (N : Int), .slice RN ((netT ts).length) cN]) ty39 (e _ _ rfl) rfl (O261.cells 1 0 rfl rfl)) rfl rfl <| wm rfl rfl rfl <| zAe (v := .agg #[.int .u64 (j : Int), .int .u64 0]) (fun ρ e => zBl (cells := #[.int .u64 (j : Int), .int .u64 0]) ar25 (e.parts rfl) rfl) rfl rfl ?_
        refine zAs (args := [.agg #[.int .i64 (N : Int), .slice RN ((netT ts).length) cN], .agg #[.int .u64 (j : Int), .int .u64 0]]) zIu rfl rfl rfl ?_
        refine (zIq (m := j) (NetM.gates (O261.ro 2 rfl) (O261.get 2 rfl).2.1) hnw hnp (by omega) (by omega) (by omega) (by omega) ((hnv (asg j)).trans hcj)).mono ?_
        rintro _ w266 ⟨rfl, hb267⟩
        have O268 := O261.below hb267
        refine ⟨_, rfl, ?_⟩
        refine wm rfl rfl rfl <| zAe (v := .bool false) (fun ρ e => zDe (r := false) (e _ _ rfl) (e _ _ rfl) (by simp)) rfl rfl <| zAd <| zAb K265 <| zAf rfl <| zAj <| zAb K264 ?_
        refine zA1 (fun X => Own Z0 W X [.blk g113 43 #[.string (natB (totN N (netT ts)))], .blk g99 39 #[.int .i64 (N : Int), .slice RN ((netT ts).length) cN], .ro (fun k => k < w95.heap.size) (NetM w95.heap.size (.slice RN ((netT ts).length) cN) (netT ts)), .ro (fun k => k = g8) (fun w => Blk w g8 25 #[.int .u64 (P.a.toNat : Int), .int .u64 (P.b.toNat : Int)]), .ro (fun k => Value.ownBlock (.slice RC ((forestG fs).length) cC) = some k) (fun w => w.ownsRow 0 65 3 (.slice RC ((forestG fs).length) cC) ((forestG fs).length) (gcells (forestG fs) vsC)), .ro (fun k => k = g60) (fun w => Blk w g60 33 #[.int .i64 (N : Int), .slice RC ((forestG fs).length) cC]), .ro (fun k => k = g2) (fun w => Blk w g2 25 #[.int .u64 (aN : Int), .int .u64 0]), .ro DC (Ins DC (forestG fs) vsC), .ro DF (fun w => ForestD DF w (.slice (some ⟨b, o, none⟩) fs.length cf) fs), .ro TabD Tab, .ro TabE TabT]) 21 [(0, 1), (1, 1), (2, 1), (3, 1), (4, 0), (5, 1), (6, 1), (7, 0), (8, 1), (9, 1), (10, 1), (11, 1), (12, 1), (13, 1), (14, 1), (15, 0), (16, 0), (17, 2), (18, 1), (19, 1), (20, 1), (21, 3)] (by kernel_rfl) (by kernel_rfl) (PQ.block (PQ.then_ (PQ.then_ (PQ.block (PQ.then_ (PQ.block (PQ.then_ (PQ.then_ (PQ.block (PQ.then_ PQ.body)))))))))) (O268).drew ?_
        have O269 := O268.drew
        refine tm rfl rfl rfl rfl <| tm rfl rfl rfl rfl <| zA0 rfl rfl rfl <| zA0 rfl rfl rfl <| zBm rfl rfl rfl <| zA0 rfl rfl rfl <| zA0 rfl rfl rfl <| zBm rfl rfl rfl ?_
        refine zA0 rfl rfl rfl <| zA0 rfl rfl rfl <| zA0 rfl rfl rfl <| zA0 rfl rfl rfl <| zA0 rfl rfl rfl <| zA0 rfl rfl rfl <| zA0 rfl rfl rfl <| zBm rfl rfl rfl ?_
        refine zBm rfl rfl rfl ?_
        refine zDi rfl rfl rfl O269 ?_
        refine zA0 rfl rfl rfl <| zA0 rfl rfl rfl <| wt1 (v := .bool true) rfl (fun ρ e W => zBa (e _ _ rfl) (e _ _ rfl)) rfl rfl <| wt3 (v := .bool true) rfl (fun ρ e => zBb (e _ _ rfl)) rfl rfl <| zBc <| zAn <| zAb K257 <| zAa ?_
        refine wm rfl rfl rfl <| zAe (v := .int .u64 ((j + 1 : Nat) : Int)) (fun ρ e => zAi (k := .u64) (u := (j : Int)) (v := 1) (e _ _ rfl) (e _ _ rfl) (congrArg some ((congrArg _ (show _ = ((j + 1 : Nat) : Int) by omega)).trans (zAx (by omega))))) rfl rfl <| wa rfl rfl rfl <| zAd ?_
        refine zAt K132 (j + 1, (kN + 1), true) (by show p2 - (j + 1) < p2 - j; omega) ⟨(by show j + 1 ≤ p2; omega), (by rw [hsc]; rfl), (by rw [hss]; first | rfl | (simp; done)), O269⟩ ⟨rfl, rfl, rfl, rfl, rfl, rfl, rfl, rfl, rfl, rfl, rfl, rfl, rfl, rfl, rfl, trivial⟩
      ·obtain rfl : p2 = j := by omega
       have hcnt : totN N (netT ts) = kN := htot.trans hkN.symm
       have hbias : biasR (netT ts) (asg aN) P = sh := hbias0.trans hsh.symm
       refine zAc fun _ K270 => zAc fun _ K271 => zAa <| wm rfl rfl rfl <| wm rfl rfl rfl <| zAe (v := .int .u64 (N : Int)) (fun ρ e => zBi (u := (N : Int)) (v := (N : Int)) (e _ _ rfl) (zAx (by omega))) rfl rfl <| zAe (v := .int .u64 (p2 : Int)) (fun ρ e => zCa (k := .u64) (a := 1) (s := N) (r := (p2 : Int)) (e _ _ rfl) (e _ _ rfl) (show _ ≤ 64 by omega) ((congrArg _ (congrArg Nat.cast ((Nat.one_mul _).trans hp2e.symm))).trans (zAx (by omega)))) rfl rfl <| wc rfl rfl (lss0 (by omega)) rfl rfl ?_
       refine zAd <| zAb K271 <| zAf rfl <| zA6 ?_
       refine zAg (by intro h; cases h) ?_
       refine zAg (by intro h; cases h) ?_
       refine zA4 <| zAb K128 <| zAc fun _ K272 => ?_
       refine zA1 (fun X => Own Z0 W X [.blk g113 43 #[.string (natB (totN N (netT ts)))], .blk g99 39 #[.int .i64 (N : Int), .slice RN ((netT ts).length) cN], .ro (fun k => k < w95.heap.size) (NetM w95.heap.size (.slice RN ((netT ts).length) cN) (netT ts)), .ro (fun k => k = g8) (fun w => Blk w g8 25 #[.int .u64 (P.a.toNat : Int), .int .u64 (P.b.toNat : Int)]), .ro (fun k => Value.ownBlock (.slice RC ((forestG fs).length) cC) = some k) (fun w => w.ownsRow 0 65 3 (.slice RC ((forestG fs).length) cC) ((forestG fs).length) (gcells (forestG fs) vsC)), .ro (fun k => k = g60) (fun w => Blk w g60 33 #[.int .i64 (N : Int), .slice RC ((forestG fs).length) cC]), .ro (fun k => k = g2) (fun w => Blk w g2 25 #[.int .u64 (aN : Int), .int .u64 0]), .ro DC (Ins DC (forestG fs) vsC), .ro DF (fun w => ForestD DF w (.slice (some ⟨b, o, none⟩) fs.length cf) fs), .ro TabD Tab, .ro TabE TabT]) 22 [(0, 1), (1, 1), (2, 1), (3, 1), (4, 1), (5, 1), (6, 1), (7, 1), (8, 1), (9, 1), (10, 1), (11, 0), (12, 1), (13, 2), (14, 2), (15, 1), (16, 1), (17, 1), (18, 1), (19, 1), (20, 1), (21, 1)] (by kernel_rfl) (by kernel_rfl) (PQ.then_ (PQ.block (PQ.then_ (PQ.then_ (PQ.block (PQ.then_ PQ.body)))))) (O133).drew ?_
       have O273 := O133.drew
       refine tm rfl rfl rfl rfl <| wt1 (v := .bool false) rfl (fun ρ e W => zCx (u := 0) (v := 0) (e _ _ rfl) (e _ _ rfl) (neq0 (by omega))) rfl rfl <| tm rfl rfl rfl rfl <| tm rfl rfl rfl rfl <| wt1 (v := .bool false) rfl (fun ρ e W => zCx (u := 0) (v := 0) (e _ _ rfl) (e _ _ rfl) (neq0 (by omega))) rfl rfl <| wt1 (v := .bool false) rfl (fun ρ e W => zA2 (e _ _ rfl) (e _ _ rfl)) rfl rfl <| tm rfl rfl rfl rfl <| tm rfl rfl rfl rfl ?_
       refine wt1 (v := .bool false) rfl (fun ρ e W => zCx (u := 0) (v := 0) (e _ _ rfl) (e _ _ rfl) (neq0 (by omega))) rfl rfl <| wt1 (v := .bool false) rfl (fun ρ e W => zA2 (e _ _ rfl) (e _ _ rfl)) rfl rfl <| tm rfl rfl rfl rfl <| wt0 (v := .agg #[.string (natB (totN N (netT ts)))]) rfl (fun ρ e W hW => zAk (vs := [.string (natB (totN N (netT ts)))]) ty43 (e _ _ rfl) rfl (hW.cells 0 0 rfl rfl)) rfl rfl <| tm rfl rfl rfl rfl ?_
       refine zA7 (args := [.int .u64 (kN : Int)]) rfl in_13 rfl rfl rfl ?_
       refine (of_ (W := w130.drew) (m := kN) (by omega)).mono ?_
       rintro _ w274 ⟨rfl, hb275⟩
       have O276 := O273.below hb275
       refine ⟨_, rfl, O276, ?_⟩
       refine zA7 (args := [.agg #[.string (natB (totN N (netT ts)))], .agg #[.string (natB kN)]]) rfl in_12 rfl rfl rfl ?_
       refine (cmp_ (W := w274) (a := totN N (netT ts)) (b := kN) (by omega) (by omega)).mono ?_
       rintro _ w277 ⟨r280, _, r280h, rfl, hb278⟩
       obtain rfl := r280h hcnt
       have O279 := O276.below hb278
       refine ⟨_, rfl, O279, ?_⟩
       refine wt1 (v := .bool false) rfl (fun ρ e W => zCx (u := 0) (v := 0) (e _ _ rfl) (e _ _ rfl) (neq0 (by omega))) rfl rfl <| wt1 (v := .bool false) rfl (fun ρ e W => zA2 (e _ _ rfl) (e _ _ rfl)) rfl rfl <| tm rfl rfl rfl rfl <| tm rfl rfl rfl rfl <| tm rfl rfl rfl rfl <| wt1 (v := .bool false) rfl (fun ρ e W => zDe (r := false) (e _ _ rfl) (e _ _ rfl) (by rw [hbias]; simp)) rfl rfl <| wt1 (v := .bool false) rfl (fun ρ e W => zA2 (e _ _ rfl) (e _ _ rfl)) rfl rfl <| zBc ?_
       refine zAb K272 <| zAf rfl <| zAj <| zAn <| zAb K93 <| zAa <| wm rfl rfl rfl <| zAe (v := .int .i64 ((i + 1 : Nat) : Int)) (fun ρ e => zAi (k := .i64) (u := (i : Int)) (v := 1) (e _ _ rfl) (e _ _ rfl) (congrArg some ((congrArg _ (by omega)).trans (zAo (u := ((i + 1 : Nat) : Int)) (by omega) (by omega))))) rfl rfl ?_
       refine wa rfl rfl rfl <| zAd ?_
       refine zAt K89 (i + 1) (by show fs.length - (i + 1) < fs.length - i; omega) ⟨(by show i + 1 ≤ fs.length; omega), (O279.re [3, 4, 5, 6, 7, 8, 9, 10] rfl)⟩ ⟨rfl, rfl, rfl, rfl, rfl, rfl, trivial⟩
     ·obtain rfl : i = fs.length := by omega
      refine zAc fun _ K281 => zAc fun _ K282 => zAa <| wm rfl rfl rfl <| wm rfl rfl rfl <| wz el22 rfl rfl rfl <| wc rfl rfl (lss0 (by omega)) rfl rfl <| zAd ?_
      refine zAb K282 <| zAf rfl <| zA6 ?_
      refine zAg (by intro h; cases h) ?_
      refine zAg (by intro h; cases h) ?_
      refine zA4 <| zAb K81 <| zAc fun _ K283 => zAc fun _ K284 => zAa <| wa rfl rfl rfl <| zAd <| zAb K284 ?_
      refine zAh ?_
      refine zA8 (ι := Nat) (fun q => [(0, .slice A fs.length cf), (1, .int .i64 (N : Int)), (10, VP g60), (23, .int .u64 (q : Int))]) (fun q X => (q ≤ p2) ∧ Own Z0 W X [.ro (fun k => k = g8) (fun w => Blk w g8 25 #[.int .u64 (P.a.toNat : Int), .int .u64 (P.b.toNat : Int)]), .ro (fun k => Value.ownBlock (.slice RC ((forestG fs).length) cC) = some k) (fun w => w.ownsRow 0 65 3 (.slice RC ((forestG fs).length) cC) ((forestG fs).length) (gcells (forestG fs) vsC)), .ro (fun k => k = g60) (fun w => Blk w g60 33 #[.int .i64 (N : Int), .slice RC ((forestG fs).length) cC]), .ro (fun k => k = g2) (fun w => Blk w g2 25 #[.int .u64 (aN : Int), .int .u64 0]), .ro DC (Ins DC (forestG fs) vsC), .ro DF (fun w => ForestD DF w (.slice A fs.length cf) fs), .ro TabD Tab, .ro TabE TabT]) (fun q => p2 - q) 0 ⟨Nat.zero_le _, O90⟩ ⟨rfl, rfl, rfl, rfl, trivial⟩ (fun q w285 hJ F286 K287 => ?_)
      obtain ⟨j, rfl⟩ : ∃ x, x = q := ⟨_, rfl⟩
      obtain ⟨hj0, O288⟩ := hJ
      try dsimp only at hj0 O288 ⊢
      by_cases hj2 : j < p2
      ·have hj : j < 2 ^ N := by rw [← hp2e]; exact hj2
       refine zAc fun _ K289 => zAc fun _ K290 => zAa <| wm rfl rfl rfl <| wm rfl rfl rfl <| zAe (v := .int .u64 (N : Int)) (fun ρ e => zBi (u := (N : Int)) (v := (N : Int)) (e _ _ rfl) (zAx (by omega))) rfl rfl <| zAe (v := .int .u64 (p2 : Int)) (fun ρ e => zCa (k := .u64) (a := 1) (s := N) (r := (p2 : Int)) (e _ _ rfl) (e _ _ rfl) (show _ ≤ 64 by omega) ((congrArg _ (congrArg Nat.cast ((Nat.one_mul _).trans hp2e.symm))).trans (zAx (by omega)))) rfl rfl <| wc rfl rfl (lss1 (by omega)) rfl rfl ?_
       refine zAd <| zAb K290 <| zAl rfl <| zAj <| zAb K289 <| zAc fun _ K291 => zAh <| zAc fun _ K292 => ?_
       refine zAa <| zAe (v := .agg #[.int .i64 (N : Int), .slice RC ((forestG fs).length) cC]) (fun ρ e => zAk (vs := [.int .i64 (N : Int), .slice RC ((forestG fs).length) cC]) ty33 (e _ _ rfl) rfl (cells2 (((O288.ro 2 rfl : Blk _ g60 33 #[.int .i64 (N : Int), .slice RC ((forestG fs).length) cC]).cell 0).trans rfl) (((O288.ro 2 rfl : Blk _ g60 33 #[.int .i64 (N : Int), .slice RC ((forestG fs).length) cC]).cell 1).trans rfl))) rfl rfl <| wm rfl rfl rfl <| zAe (v := .agg #[.int .u64 (j : Int), .int .u64 0]) (fun ρ e => zBl (cells := #[.int .u64 (j : Int), .int .u64 0]) ar25 (e.parts rfl) rfl) rfl rfl ?_
       refine zAs (args := [.agg #[.int .i64 (N : Int), .slice RC ((forestG fs).length) cC], .agg #[.int .u64 (j : Int), .int .u64 0]]) in_14 rfl rfl rfl ?_
       refine (evalb_ (W := w285) (zId (O288.ro 1 rfl) (O288.ro 4 rfl) (O288.get 4 rfl).2.1) (by omega) (by omega) (m := j) (by omega) hszF ((eval_forest (by omega) (by omega) hall (by omega) (asg_sub hN6 hj)).trans rfl)).mono ?_
       rintro _ w293 ⟨rfl, hb294⟩
       have O295 := O288.below hb294
       refine ⟨_, rfl, ?_⟩
       refine wm rfl rfl rfl <| wm rfl rfl rfl <| zAe (v := .agg #[.int .u64 (j : Int), .int .u64 0]) (fun ρ e => zBl (cells := #[.int .u64 (j : Int), .int .u64 0]) ar25 (e.parts rfl) rfl) rfl rfl ?_
       refine zAs (args := [.slice A fs.length cf, .agg #[.int .u64 (j : Int), .int .u64 0]]) in_15 rfl rfl rfl ?_
       refine (voteb_ (O295.ro 5 rfl) (O295.get 5 rfl).2.1 (m := j) (by omega) (by omega) rfl).mono ?_
       rintro _ w296 ⟨rfl, hb297⟩
       have O298 := O295.below hb297
       refine ⟨_, rfl, ?_⟩
       refine zAe (v := .bool false) (fun ρ e => zDe (r := false) (e _ _ rfl) (e _ _ rfl) (by simp)) rfl rfl <| zAd <| zAb K292 <| zAf rfl <| zAj <| zAn <| zAb K291 <| zAa ?_
       refine wm rfl rfl rfl <| zAe (v := .int .u64 ((j + 1 : Nat) : Int)) (fun ρ e => zAi (k := .u64) (u := (j : Int)) (v := 1) (e _ _ rfl) (e _ _ rfl) (congrArg some ((congrArg _ (show _ = ((j + 1 : Nat) : Int) by omega)).trans (zAx (by omega))))) rfl rfl <| wa rfl rfl rfl <| zAd ?_
       refine zAt K287 (j + 1) (by show p2 - (j + 1) < p2 - j; omega) ⟨(by show j + 1 ≤ p2; omega), O298⟩ ⟨rfl, rfl, rfl, rfl, trivial⟩
      ·obtain rfl : p2 = j := by omega
       refine zAc fun _ K299 => zAc fun _ K300 => zAa <| wm rfl rfl rfl <| wm rfl rfl rfl <| zAe (v := .int .u64 (N : Int)) (fun ρ e => zBi (u := (N : Int)) (v := (N : Int)) (e _ _ rfl) (zAx (by omega))) rfl rfl <| zAe (v := .int .u64 (p2 : Int)) (fun ρ e => zCa (k := .u64) (a := 1) (s := N) (r := (p2 : Int)) (e _ _ rfl) (e _ _ rfl) (show _ ≤ 64 by omega) ((congrArg _ (congrArg Nat.cast ((Nat.one_mul _).trans hp2e.symm))).trans (zAx (by omega)))) rfl rfl <| wc rfl rfl (lss0 (by omega)) rfl rfl ?_
       refine zAd <| zAb K300 <| zAf rfl <| zA6 ?_
       refine zAg (by intro h; cases h) ?_
       refine zAg (by intro h; cases h) ?_
       refine zA4 <| zAb K283 <| zAc fun _ K301 => zAa ?_
       refine zAs (args := []) in_4 rfl rfl rfl ?_
       refine (zHr w285).mono ?_
       rintro _ w302 ⟨rfl, hb303⟩
       have O304 := O288.below hb303
       refine ⟨_, rfl, ?_⟩
       refine wa rfl rfl rfl <| zAd <| zAb K301 <| zAz ?_
       refine zAy (v := .bool true) (fun T hT => res1 rfl T _ (hT 8 _ rfl)) ?_
       exact ⟨rfl, O304.old⟩

end Go.Proofs.YtliiclmhpphpmaaGreatDoor
namespace Go.Proofs.YtliiclmhpphpmaaGreatDoor
open Go.ChangeShapes Go.WideShapes Go.ChangeAt Go.RowKit

end Go.Proofs.YtliiclmhpphpmaaGreatDoor
namespace Go.Proofs.YtliiclmhpphpmaaGreatDoor
open Go Go.RowKit Go.ChangeShapes Go.WideShapes Go.Deep Go.Joins

theorem laidOut : laidOutB Tryz.prog = true := by kernel_rfl

section
variable {H : Type} {enc : TypeId × Value → H} {W : World} {held : Bool}

theorem block_lt {a : Addr} {v : Value} (h : W.cell? a = some v) : a.block < W.heap.size := by
 unfold World.cell? at h
 split at h
 ·rename_i he
  exact (Array.getElem?_eq_some_iff.1 he).1
 ·cases h
theorem addr_eta {a : Addr} {v : Value} (h : W.cell? a = some v) : a = ⟨a.block, a.off, none⟩ := by
 have := World.cell?_spot h
 cases a; simp_all
theorem addr_add (b o j : Nat) : (⟨b, o, none⟩ : Addr).add j = ⟨b, o + j, none⟩ := by unfold Addr.add; split <;> simp_all

theorem open_fields {t : TypeId} {fs : Array Field} {fuel : Nat} {cs : List Value} {x : DataW H × List MemPlace} (ht : Tryz.prog.underlying t = some (.struct fs)) (hone : oneCellFields Tryz.prog fs = true)
  (h : DataW.trod enc Tryz.prog W 0 (fun _ => true) held fuel t cs = some x) (hl : cs.length = fs.size) :
  ∀ (j : Nat) (f : Field), fs[j]? = some f → ∃ v n y, cs[j]? = some v ∧ DataW.trod enc Tryz.prog W 0 (fun _ => true) held n f.type [v] = some y := by
 obtain ⟨ys, n', hn', hy, hlen, hyl, hf⟩ := DataW.trod_struct ht h
 intro j f hj
 obtain ⟨ho, hk⟩ := hone_of hone j f hj
 have hjl : j < fs.size := (Array.getElem?_eq_some_iff.1 hj).1
 have h1 := hf j f hj
 rw [ho, hk] at h1
 have hone' : (cs.drop j).take 1 = [cs[j]'(by omega)] := by
  rw [List.drop_eq_getElem_cons (by omega)]
  rfl
 rw [hone'] at h1
 have hys : ys[j]? = some (ys[j]'(by omega)) := List.getElem?_eq_getElem (by omega)
 exact ⟨_, _, _, List.getElem?_eq_getElem (by omega), h1.trans hys⟩

set_option maxRecDepth 100000 in
theorem okWide_arr {r : Reach} {b0 : Nat} {v : Value} {t e : TypeId} {n : Nat} (ht : Tryz.prog.underlying t = some (.array n e)) (h : Value.okWide Tryz.prog W r b0 t v) : ∃ cs, v = .agg cs ∧ cs.size = Tryz.prog.cellsOf t := by
 simp only [Value.okWide, ht] at h
 obtain ⟨cs, h1, h2, _⟩ := h
 exact ⟨cs, h1, h2⟩
set_option maxRecDepth 100000 in
theorem open_set {r : Reach} {b0 : Nat} {v : Value} {d : DataW H} {p : List MemPlace} (hv : Value.okWide Tryz.prog W r b0 25 v) (h : DataW.Trod enc Tryz.prog W 0 (fun _ => true) held 25 v d p) :
  ∃ s : VS, v = (.agg #[.int .u64 ((s).a.toNat : Int), .int .u64 ((s).b.toNat : Int)]) := by
 obtain ⟨cs, rfl, hsz⟩ := okWide_arr Tryz.underlying25 hv
 obtain ⟨fuel, hf⟩ := h
 obtain ⟨xs, m, _, _, hlen, hxl, hi⟩ := DataW.trod_array Tryz.underlying25 hf
 have hC : Tryz.prog.cellsOf 23 = 1 := by kernel_rfl
 have hC2 : Tryz.prog.cellsOf 25 = 2 := by kernel_rfl
 rw [hC2] at hsz
 obtain ⟨l⟩ := cs
 match l, hsz, xs, hxl with
 | [c0, c1], _, [y0, y1], _ =>
  have h0 := hi 0 (by omega)
  have h1 := hi 1 (by omega)
  rw [hC] at h0 h1
  simp [Value.cells] at h0 h1
  obtain ⟨a, ha, _, wa⟩ := DataW.trod_int Tryz.underlying23 h0
  obtain ⟨b, hb, _, wb⟩ := DataW.trod_int Tryz.underlying23 h1
  injection ha with ha _
  injection hb with hb _
  subst ha hb
  simp [Lit.wf] at wa wb
  have e1 : IntKind.u64.min = 0 := rfl
  have e2 : IntKind.u64.max = 18446744073709551615 := rfl
  refine ⟨⟨BitVec.ofNat 64 a.toNat, BitVec.ofNat 64 b.toNat⟩, ?_⟩
  have ea : ((BitVec.ofNat 64 a.toNat).toNat : Int) = a := by
   rw [BitVec.toNat_ofNat, Nat.mod_eq_of_lt (by omega)]; omega
  have eb : ((BitVec.ofNat 64 b.toNat).toNat : Int) = b := by
   rw [BitVec.toNat_ofNat, Nat.mod_eq_of_lt (by omega)]; omega
  simp only [ea, eb]
end
end Go.Proofs.YtliiclmhpphpmaaGreatDoor
namespace Go.Proofs.YtliiclmhpphpmaaGreatDoor
open Go Go.ChangeShapes Go.WideShapes Go.ChangeAt Go.RowKit

theorem carryAll {H : Type} {enc : TypeId × Value → H} {W W' : World} (hb : Below W.heap.size W W') : ∀ {ts : List TypeId} {vs : List Value} {ds : List (DataW H)} {ps : List MemPlace},
  DataW.TrodAll enc Tryz.prog W 0 (fun _ => true) true ts vs ds ps → (∀ x ∈ ps, x.block < W.heap.size) → ts.all (fun t => Tryz.prog.readableRec t && decide (t < Tryz.prog.types.size)) = true →
  DataW.TrodAll enc Tryz.prog W' 0 (fun b => decide (b < W.heap.size)) true ts vs ds ps := by
 intro ts
 induction ts with
 | nil =>
  intro vs ds ps h _ _
  obtain ⟨rfl, rfl, rfl⟩ := trodAll_nil h
  exact trodAll_mk0
 | cons t ts ih =>
  intro vs ds ps h hlt hts
  obtain ⟨v0, vs0, d0, ds0, p0, q0, rfl, rfl, rfl, h0, r0⟩ := trodAll_cons h
  simp only [List.all_cons, Bool.and_eq_true, decide_eq_true_eq] at hts
  exact trodAll_cons_mk (Below.trod laidOut hts.1.1 hts.1.2 h0 hb (fun x hx => hlt x (List.mem_append_left _ hx))) (ih r0 (fun x hx => hlt x (List.mem_append_right _ hx)) hts.2)

theorem law_post2 {H : Type} {enc : TypeId × Value → H} {f : Func} {s : ChangeSpec} {W W' : World} {args : Array Value} {v : Value} {ds : List (DataW H)} {p : List MemPlace} (hvars : s.vars = [])
  (hW : DataW.Whole enc Tryz.prog f.params.toList s.vars false W args.toList ds [] (p ++ []))
  (hA : DataW.TrodAll enc Tryz.prog W 0 (fun _ => true) true f.params.toList args.toList ds p)
  (hres : DataW.TrodAll enc Tryz.prog W' W.heap.size (fun _ => false) false f.resultTypes.toList (v.resultList f.resultTypes.size) (s.fn H (ds ++ [])).results [])
  (hfa : (s.fn H (ds ++ [])).args = ds) (hfv : (s.fn H (ds ++ [])).vars = []) (hts : f.params.toList.all (fun t => Tryz.prog.readableRec t && decide (t < Tryz.prog.types.size)) = true) (hb : Below W.heap.size W W') : s.post enc Tryz.prog f false true false false W args v W' := by
 have hlt : ∀ p' ∈ p ++ [], p'.block < W.heap.size := fun p' hp => hW.lt p' hp
 have hlt' : ∀ x ∈ p, x.block < W.heap.size := fun x hx => hlt x (by simpa using hx)
 have h2 := carryAll hb hA hlt' hts
 refine ⟨ds, [], p ++ [], [], p, [], hW, hres, ?_, ?_, World.keptBut_mono (fun p' hp => ⟨hp, .inr (.inl (by simpa using hp))⟩) (hb.frame (· ∈ p ++ [])), fun h => by cases h⟩
 ·rw [hfa]; exact h2
 ·rw [hfv, hvars]; rfl
end Go.Proofs.YtliiclmhpphpmaaGreatDoor
namespace Go.Proofs.YtliiclmhpphpmaaGreatDoor
open Go Go.ChangeShapes Go.WideShapes Go.ChangeAt Go.RowKit Go.Deep Go.Joins
section
variable {H : Type} {enc : TypeId × Value → H} {W : World} {held : Bool}
set_option maxRecDepth 100000 in
theorem slice_cells {r : Reach} {b0 t e : Nat} {v : Value} (ht : Tryz.prog.underlying t = some (.slice e)) (h : Value.okWide Tryz.prog W r b0 t v) : v.cells = #[v] := by
 obtain ⟨a, len, cap, rfl⟩ := okWide_slice ht h
 rfl
theorem open_tnode {fuel : Nat} {cs : List Value} {x : DataW H × List MemPlace} (hl : cs.length = 4) (h : DataW.trod enc Tryz.prog W 0 (fun _ => true) held fuel 60 cs = some x) :
  ∃ g : TN, cs = [.int .i64 g.v, .int .i64 g.no, .int .i64 g.yes, .bool g.c] := by
 have hf := open_fields Tryz.underlying60 (by kernel_rfl) h (by rw [hl]; rfl)
 obtain ⟨v0, n0, y0, c0, t0⟩ := hf 0 _ rfl
 obtain ⟨v1, n1, y1, c1, t1⟩ := hf 1 _ rfl
 obtain ⟨v2, n2, y2, c2, t2⟩ := hf 2 _ rfl
 obtain ⟨v3, n3, y3, c3, t3⟩ := hf 3 _ rfl
 obtain ⟨k, hk, _, _⟩ := DataW.trod_int Tryz.underlying3 t0
 obtain ⟨l, hl', _, _⟩ := DataW.trod_int Tryz.underlying3 t1
 obtain ⟨m, hm, _, _⟩ := DataW.trod_int Tryz.underlying3 t2
 obtain ⟨b, hb, _⟩ := DataW.trod_bool Tryz.underlying4 t3
 injection hk with hk _
 injection hl' with hl' _
 injection hm with hm _
 injection hb with hb _
 subst hk hl' hm hb
 refine ⟨⟨k, l, m, b⟩, ?_⟩
 match cs, hl with
 | [a, b, c, d], _ => simp at c0 c1 c2 c3; rw [c0, c1, c2, c3]
theorem open_treeD {fuel : Nat} {cs : List Value} {x : DataW H × List MemPlace} (h : DataW.trod enc Tryz.prog W 0 (fun _ => true) held fuel 28 cs = some x) :
  ∃ v ts, cs = [v] ∧ TreeD (fun k => k < W.heap.size) W v ts := by
 have hC : Tryz.prog.cellsOf 60 = 4 := by kernel_rfl
 rcases open_slice Tryz.underlying28 h with ⟨rfl, rfl⟩ | ⟨a, len, cap, m, n, D, Pl, rfl, hb, hl, hm, hmm, hx, hi⟩
 ·exact ⟨_, [], rfl, none, 0, rfl, Nat.le_refl _, Nat.zero_le _, fun h => absurd h (Nat.lt_irrefl _)⟩
 ·simp only [if_true] at hmm
  subst hmm
  rw [hC] at hi
  have each : ∀ i, i < m → ∃ g : TN, (W.cell? ⟨a.block, a.off + i * 4, none⟩ = some (.int .i64 g.v) ∧ W.cell? ⟨a.block, a.off + i * 4 + 1, none⟩ = some (.int .i64 g.no) ∧ W.cell? ⟨a.block, a.off + i * 4 + 2, none⟩ = some (.int .i64 g.yes) ∧ W.cell? ⟨a.block, a.off + i * 4 + 3, none⟩ = some (.bool g.c)) ∧ (i = 0 → a = ⟨a.block, a.off, none⟩ ∧ a.block < W.heap.size) := by
   intro i hlt
   obtain ⟨cs', hcs, ht⟩ := hi i hlt
   obtain ⟨_, hcl, hat⟩ := World.cells?_some hcs
   obtain ⟨g, rfl⟩ := open_tnode hcl ht
   have h0 := hat 0 (by omega)
   have h1 := hat 1 (by omega)
   have h2 := hat 2 (by omega)
   have h3 := hat 3 (by omega)
   have he : a.add (i * 4) = ⟨a.block, a.off + i * 4, none⟩ := by
    unfold Addr.add at h0 ⊢
    split
    ·rename_i hz
     rw [if_pos hz, if_pos rfl] at h0
     rw [hz]
     exact addr_eta h0
    ·rfl
   rw [he] at h0 h1 h2 h3
   rw [addr_add] at h0 h1 h2 h3
   refine ⟨g, ⟨h0, h1, h2, h3⟩, fun e0 => ?_⟩
   subst e0
   have ha : a.add (0 * 4) = a := by simp [Addr.add]
   rw [ha] at he
   refine ⟨he, ?_⟩
   exact block_lt (a := ⟨a.block, a.off + 0 * 4 + 0, none⟩) h0
  obtain ⟨vs, h1, h2⟩ := zFd (P := fun i (g : TN) => W.cell? ⟨a.block, a.off + i * 4, none⟩ = some (.int .i64 g.v) ∧ W.cell? ⟨a.block, a.off + i * 4 + 1, none⟩ = some (.int .i64 g.no) ∧ W.cell? ⟨a.block, a.off + i * 4 + 2, none⟩ = some (.int .i64 g.yes) ∧ W.cell? ⟨a.block, a.off + i * 4 + 3, none⟩ = some (.bool g.c)) len (fun i hi2 => by
   obtain ⟨g, hg, _⟩ := each i (by omega)
   exact ⟨g, hg⟩)
  subst h1
  refine ⟨_, vs, rfl, some a, m, rfl, hl, hm, fun hp => ?_⟩
  obtain ⟨_, _, h3⟩ := each 0 (by omega)
  obtain ⟨h4, h5⟩ := h3 rfl
  exact ⟨a.block, a.off, h5, by rw [← h4], h2⟩
theorem open_forestD {fuel : Nat} {cs : List Value} {x : DataW H × List MemPlace} (h : DataW.trod enc Tryz.prog W 0 (fun _ => true) held fuel 22 cs = some x) :
  ∃ v fs, cs = [v] ∧ ForestD (fun k => k < W.heap.size) W v fs := by
 have hC : Tryz.prog.cellsOf 28 = 1 := by kernel_rfl
 rcases open_slice Tryz.underlying22 h with ⟨rfl, rfl⟩ | ⟨a, len, cap, m, n, D, Pl, rfl, hb, hl, hm, hmm, hx, hi⟩
 ·exact ⟨_, [], rfl, none, 0, rfl, Nat.le_refl _, Nat.zero_le _, fun h => absurd h (Nat.lt_irrefl _)⟩
 ·simp only [if_true] at hmm
  subst hmm
  rw [hC] at hi
  have each : ∀ i, i < m → ∃ ts : List TN, (∃ u, W.cell? ⟨a.block, a.off + i, none⟩ = some u ∧ TreeD (fun k => k < W.heap.size) W u ts) ∧ (i = 0 → a = ⟨a.block, a.off, none⟩ ∧ a.block < W.heap.size) := by
   intro i hlt
   obtain ⟨cs', hcs, ht⟩ := hi i hlt
   obtain ⟨_, hcl, hat⟩ := World.cells?_some hcs
   obtain ⟨u, ts, rfl, hT⟩ := open_treeD ht
   have h0 := hat 0 (by omega)
   rw [Nat.mul_one] at h0
   have he : a.add i = ⟨a.block, a.off + i, none⟩ := by
    unfold Addr.add at h0 ⊢
    split
    ·rename_i hz
     rw [if_pos hz, if_pos rfl] at h0
     rw [hz]
     exact addr_eta h0
    ·rfl
   rw [he] at h0
   rw [addr_add] at h0
   refine ⟨ts, ⟨u, h0, hT⟩, fun e0 => ?_⟩
   subst e0
   have ha : a.add 0 = a := by simp [Addr.add]
   rw [ha] at he
   refine ⟨he, ?_⟩
   exact block_lt (a := ⟨a.block, a.off + 0 + 0, none⟩) h0
  obtain ⟨vs, h1, h2⟩ := zFd (P := fun i (ts : List TN) => ∃ u, W.cell? ⟨a.block, a.off + i, none⟩ = some u ∧ TreeD (fun k => k < W.heap.size) W u ts) len (fun i hi2 => by
   obtain ⟨g, hg, _⟩ := each i (by omega)
   exact ⟨g, hg⟩)
  subst h1
  refine ⟨_, vs, rfl, some a, m, rfl, hl, hm, fun hp => ?_⟩
  obtain ⟨_, _, h3⟩ := each 0 (by omega)
  obtain ⟨h4, h5⟩ := h3 rfl
  exact ⟨a.block, a.off, h5, by rw [← h4], h2⟩
set_option maxRecDepth 100000 in
theorem open_forest {r : Reach} {b0 : Nat} {v : Value} {d : DataW H} {p : List MemPlace} (hv : Value.okWide Tryz.prog W r b0 22 v) (h : DataW.Trod enc Tryz.prog W 0 (fun _ => true) held 22 v d p) : ∃ fs, ForestD (fun k => k < W.heap.size) W v fs := by
 obtain ⟨fuel, hf⟩ := h
 rw [slice_cells Tryz.underlying22 hv] at hf
 obtain ⟨v', fs, h1, h2⟩ := open_forestD hf
 injection h1 with h1 _
 exact ⟨fs, h1 ▸ h2⟩
end
def laidL : List (String × DataW Unit) := Rows.topForestsRow.laid
theorem tab_laid {W : World} (h : laidMetH Tryz.prog laidL W) : Tab W := by
 rw [MakeChecks.laidMetH_plain _ _ _ (by kernel_rfl)] at h
 obtain ⟨g, t, cs, fuel, p, hg, ht, hv, hd⟩ := Lib.laidMet.reads (n := tabN) (d := Rows.laid_internal_strconv_uint64pow10) h (List.Mem.tail _ (List.Mem.tail _ (List.Mem.head _)))
 have h0 : Tryz.prog.globalNamed tabN = some 3 := by kernel_rfl
 obtain rfl := Option.some.inj (h0.symm.trans hg)
 have h1 : (Tryz.prog.globals[3]?).map (·.type) = some 208 := by kernel_rfl
 obtain rfl := Option.some.inj (h1.symm.trans ht)
 have hc := Lib.cells_of_tab (k := .u64) (zs := Lib.pow10Tab) Tryz.underlying208 Tryz.underlying23 (by kernel_rfl) (by kernel_rfl) hd
 unfold Tab Lib.TabIs
 rw [hv, ← hc]
def bruijn : List Int := [0, 1, 56, 2, 57, 49, 28, 3, 61, 58, 42, 50, 38, 29, 17, 4, 62, 47, 59, 36, 45, 43, 51, 22, 53, 39, 33, 30, 24, 18, 12, 5, 63, 55, 48, 27, 60, 41, 37, 16, 46, 35, 44, 21, 52, 32, 23, 11, 54, 26, 40, 15, 34, 20, 31, 10, 25, 14, 19, 9, 13, 8, 7, 6]
theorem tabT_laid {W : World} (h : laidMetH Tryz.prog laidL W) : TabT W := by
 rw [MakeChecks.laidMetH_plain _ _ _ (by kernel_rfl)] at h
 obtain ⟨g, t, cs, fuel, p, hg, ht, hv, hd⟩ := Lib.laidMet.reads (n := tabB) (d := Rows.laid_math_bits_deBruijn64tab) h (List.Mem.tail _ (List.Mem.head _))
 have h0 : Tryz.prog.globalNamed tabB = some 0 := by kernel_rfl
 obtain rfl := Option.some.inj (h0.symm.trans hg)
 have h1 : (Tryz.prog.globals[0]?).map (·.type) = some 174 := by kernel_rfl
 obtain rfl := Option.some.inj (h1.symm.trans ht)
 have hc := Lib.cells_of_tab (k := .u8) (zs := bruijn) Tryz.underlying174 Tryz.underlying5 (by kernel_rfl) (by kernel_rfl) hd
 intro k hk
 have hcs : cs[tzIdx k]? = some (.int .u8 (k : Int)) := by
  rw [← Array.getElem?_toList, hc]
  rcases (show k = 0 ∨ k = 1 ∨ k = 2 ∨ k = 3 ∨ k = 4 ∨ k = 5 by omega) with rfl | rfl | rfl | rfl | rfl | rfl <;> rfl
 unfold World.var? at hv
 rw [h0] at hv
 simp only [Option.bind_some] at hv
 unfold World.cell?
 dsimp only
 split at hv
 ·rename_i cs' e' f' he
  injection hv with hv
  subst hv
  rw [he]
  exact hcs
 ·cases hv
end Go.Proofs.YtliiclmhpphpmaaGreatDoor
