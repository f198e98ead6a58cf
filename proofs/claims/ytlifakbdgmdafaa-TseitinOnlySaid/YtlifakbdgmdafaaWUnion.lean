/-
  What censusref03.Union computes.
-/
import Derived.Test.YtlifakbdgmdafaaEnc
import Derived.Test.YtlifakbdgmdafaaWSets5
namespace Go.Proofs.Ytlifakbdgmdafaa
open Go Go.RowKit

theorem step_append_ints_to (w : World) {ops : Array Oper} {o : Oper} {a : Act} {K : Act → World → Prop} {Q : Exit → Act → World → Prop} {E : Prop} (hgd : o.guard = none) (s x : Operand)
    (ho : o.op = .call { callee := .builtin .append, args := #[s, x], argTypes := #[30, 30] }) (base B : Nat) (v V : Value) (l l2 l3 : List Int) (h3 : l ++ l2 = l3) (hs : a.eval s = v) (hown : OwnInts w base v l)
    (hx : a.eval x = V) (hV : IntsV w B V l2) (hlen : l.length + l2.length ≤ 1099511627776) (hbase : base ≤ w.heap.size)
    (h : ∀ A c w', OwnInts w' base (.slice A l3.length c) l3 → w.grownBy w' v.ownBlock → K (a.put o.dst (.slice A l3.length c)) w') :
    if Region.wanted o (yielded ops a.tmps) = true then Oper.wp Try.prog o a w K Q else E := by
  subst h3
  exact step_append_ints w hgd s x ho base B v V l l2 hs hown hx hV hlen hbase h

set_option maxRecDepth 100000 in
set_option maxHeartbeats 3200000 in
theorem ref03_union (a b : VS) (w : World) :
    Calls Try.prog 29 #[(.agg #[.int .u64 ((a).a.toNat : Int), .int .u64 ((a).b.toNat : Int)]), (.agg #[.int .u64 ((b).a.toNat : Int), .int .u64 ((b).b.toNat : Int)])] w fun e w' => e = .returned (.agg #[.int .u64 ((a.union b).a.toNat : Int), .int .u64 ((a.union b).b.toNat : Int)]) ∧ Below w.heap.size w w' := by
  have hset : VS.ofList (VS.list a 128 ++ VS.list b 128) = a.union b := by
    apply VS.ext_has
    intro u h1 h2
    rw [VS.has_ofList _ u h1 h2, VS.has_union, List.contains_append, list_mem _ u h1 h2, list_mem _ u h1 h2]
  obtain ⟨lab, hlab⟩ : ∃ x, VS.list a 128 ++ VS.list b 128 = x := ⟨_, rfl⟩
  rw [hlab] at hset
  have HSET := Lib.hid hset
  have HLAB := Lib.hid hlab
  clear hset hlab
  have hl1 := list_len a 128
  have hl2 := list_len b 128
  have ka : ∀ w, Calls Try.prog 55 #[(.agg #[.int .u64 ((a).a.toNat : Int), .int .u64 ((a).b.toNat : Int)])] w fun e w' => (∃ v, e = .returned v ∧ OwnInts w' w.heap.size v (VS.list a 128)) ∧ Below w.heap.size w w' := fun w => ref03_list a.a a.b w
  have kb : ∀ w, Calls Try.prog 55 #[(.agg #[.int .u64 ((b).a.toNat : Int), .int .u64 ((b).b.toNat : Int)])] w fun e w' => (∃ v, e = .returned v ∧ OwnInts w' w.heap.size v (VS.list b 128)) ∧ Below w.heap.size w w' := fun w => ref03_list b.a b.b w
  have KA := Lib.hid ka
  have KB := Lib.hid kb
  clear ka kb
  generalize VS.list a 128 = la at hl1 KA HLAB
  generalize VS.list b 128 = lb at hl2 KB HLAB
  generalize VS.union a b = t at HSET ⊢
  go_enter Try.func29, Try.ntmps29
  go_wp2
  have ba : Blk (((w.alloc (.cells #[.int .u64 (a.a.toNat : Int), .int .u64 (a.b.toNat : Int)] 38)).alloc (.cells #[.int .u64 (b.a.toNat : Int), .int .u64 (b.b.toNat : Int)] 38)).alloc (.cells #[.int .u64 0, .int .u64 0] 38)) w.heap.size 38 #[.int .u64 (a.a.toNat : Int), .int .u64 (a.b.toNat : Int)] := ((Blk.new w _ _).alloc _).alloc _
  have bb : Blk (((w.alloc (.cells #[.int .u64 (a.a.toNat : Int), .int .u64 (a.b.toNat : Int)] 38)).alloc (.cells #[.int .u64 (b.a.toNat : Int), .int .u64 (b.b.toNat : Int)] 38)).alloc (.cells #[.int .u64 0, .int .u64 0] 38)) (w.heap.size + 1) 38 #[.int .u64 (b.a.toNat : Int), .int .u64 (b.b.toNat : Int)] := (Blk.new_ (by simp)).alloc _
  have br : Blk (((w.alloc (.cells #[.int .u64 (a.a.toNat : Int), .int .u64 (a.b.toNat : Int)] 38)).alloc (.cells #[.int .u64 (b.a.toNat : Int), .int .u64 (b.b.toNat : Int)] 38)).alloc (.cells #[.int .u64 0, .int .u64 0] 38)) (w.heap.size + 1 + 1) 38 #[.int .u64 0, .int .u64 0] := Blk.new_ (by simp)
  have hw : Below w.heap.size w (((w.alloc (.cells #[.int .u64 (a.a.toNat : Int), .int .u64 (a.b.toNat : Int)] 38)).alloc (.cells #[.int .u64 (b.a.toNat : Int), .int .u64 (b.b.toNat : Int)] 38)).alloc (.cells #[.int .u64 0, .int .u64 0] 38)) := by go_grown
  generalize (((w.alloc (.cells #[.int .u64 (a.a.toNat : Int), .int .u64 (a.b.toNat : Int)] 38)).alloc (.cells #[.int .u64 (b.a.toNat : Int), .int .u64 (b.b.toNat : Int)] 38)).alloc (.cells #[.int .u64 0, .int .u64 0] 38)) = w0 at *
  have A0 := ba.later 0 _ rfl
  have A1 := ba.later 1 _ rfl
  have B0 := bb.later 0 _ rfl
  have B1 := bb.later 1 _ rfl
  have lr := br.lt
  have BR := Lib.hid br
  clear ba bb br
  have hd0 : Below w0.heap.size w0 w0 := Below.refl _ _
  have hdr : ∀ (W : World), Below w0.heap.size w0 W → Below w0.heap.size w0 W.drew := fun W h => h.drew
  go_region_law (first
    | (go_simp; go_at_call 55; (with_reducible refine (KA.out _).mono ?_); rintro e w1 ⟨⟨va, rfl, owna⟩, hb1⟩; have hc1 : Below w0.heap.size w0 w1 := Below.trans (by first | exact hdr _ (hdr _ hd0) | exact hdr _ hd0) (hb1.mono (by simp)))
    | (go_simp; go_at_call 55; (with_reducible refine (KB.out _).mono ?_); rintro e w2 ⟨⟨vb, rfl, ownb⟩, hb2⟩; have hc12 : Below w1.heap.size w1 w2 := Below.trans (by first | exact Below.refl _ _ | exact (Below.refl _ _).drew | exact ((Below.refl _ _).drew).drew) (hb2.mono (by simp)); have hc2 : Below w0.heap.size w0 w2 := hc1.trans (hc12.mono hc1.size))
    | (refine step_append_ints_to _ rfl (.tmp 6) (.tmp 8) rfl w0.heap.size w2.heap.size va vb la lb lab HLAB.out rfl (OwnInts.base (own_below owna hc12) (by first | exact Nat.le_refl _ | simp)) rfl (by exact ownb.V) (by omega) (by exact hc2.size) (fun A3 c3 w3 own3 hg3 => ?_); have hc3 : Below w0.heap.size w0 w3 := hc2.trans (below_of_grown hg3 hc2.size (fun k hk => Nat.le_trans (by first | exact Nat.le_refl _ | simp) (own_ge owna hk).1)))
    | (go_simp; go_at_call 54; (with_reducible refine (ref03_of _ _ _ _ (Nat.le_refl _) own3.V).mono ?_); rintro e w4 ⟨rfl, hb4⟩; have hc4 : Below w0.heap.size w0 w4 := hc3.trans (hb4.mono hc3.size); have b4 := BR.out.keep hc4; have q0 := b4.cell 0; have q1 := b4.cell 1; have f0 := b4.free 0; have f1 := b4.free 1; simp at q0 q1; rw [HSET.out]))
  all_goals
    go_wp2
    refine bodyPost_ret (v := (.agg #[.int .u64 ((t).a.toNat : Int), .int .u64 ((t).b.toNat : Int)])) (by simp [results, Try.results29, go_sem, q0, q1]) rfl ?_
    exact ⟨rfl, ((hw.trans (hc4.mono hw.size)).setCell (by simp <;> omega) _).setCell (by simp <;> omega) _⟩
end Go.Proofs.Ytlifakbdgmdafaa
