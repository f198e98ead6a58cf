/-
  What TseitinOnly computes.
-/
import Derived.Test.YtlifakbdgmdafaaSem3
import Derived.Test.YtlifakbdgmdafaaSizes
import Derived.Test.YtlifakbdgmdafaaWExtend
import Derived.Test.YtlifakbdgmdafaaWThEval
import Derived.Test.YtlifakbdgmdafaaWUnion
import Derived.Test.YtlifakbdgmdafaaLits
import Derived.Deep.DeepCutAuto
namespace Go.Proofs.Ytlifakbdgmdafaa
open Go Go.RowKit

/-! What is stored into a set's block leaves numbers and rows alone. -/
theorem cell_only {w w' : World} {g : Nat} {a : Addr} {v : Value} (hc : w.cell? a = some v) (hne : a.block ≠ g) (ho : Only (fun k => k = g) w w') : w'.cell? a = some v := by
  have hlt : a.block < w.heap.size := by
    unfold World.cell? at hc
    split at hc
    · rename_i he; exact (Array.getElem?_eq_some_iff.1 he).1
    · cases hc
  unfold World.cell? at hc ⊢
  rw [ho.block a.block hlt hne]
  exact hc
theorem cell_ne {w : World} {g : Nat} {t : TypeId} {x y : Int} (hg : Blk w g t #[.int .u64 x, .int .u64 y]) {a : Addr} {v : Value} (hc : w.cell? a = some v) (hv : ∀ z, v ≠ .int .u64 z) : a.block ≠ g := by
  intro e
  unfold World.cell? at hc
  unfold Blk at hg
  rw [e, hg] at hc
  simp only at hc
  split at hc
  · cases hc
  · have hm := Array.mem_of_getElem? hc
    simp at hm
    rcases hm with hm | hm
    · exact hv _ hm
    · exact hv _ hm
theorem IntsV.only {w w' : World} {g B : Nat} {t : TypeId} {x y : Int} {v : Value} {l : List Int} (h : IntsV w B v l) (hg : Blk w g t #[.int .u64 x, .int .u64 y]) (ho : Only (fun k => k = g) w w') : IntsV w' B v l := by
  obtain ⟨A, c, hv, h1, h2, h3⟩ := h
  refine ⟨A, c, hv, h1, h2, fun hn => ?_⟩
  obtain ⟨b, o, hB, hA, hc⟩ := h3 hn
  exact ⟨b, o, hB, hA, fun i z hz => cell_only (hc i z hz) (cell_ne hg (hc i z hz) (fun z' e => by cases e)) ho⟩
theorem RowsV.only {w w' : World} {g B : Nat} {t : TypeId} {x y : Int} {v : Value} {l : List (List Int)} (h : RowsV w B v l) (hg : Blk w g t #[.int .u64 x, .int .u64 y]) (ho : Only (fun k => k = g) w w') : RowsV w' B v l := by
  obtain ⟨A, c, hv, h1, h2, h3⟩ := h
  refine ⟨A, c, hv, h1, h2, fun hn => ?_⟩
  obtain ⟨b, o, hB, hA, hc⟩ := h3 hn
  refine ⟨b, o, hB, hA, fun i z hz => ?_⟩
  obtain ⟨u, hu, hI⟩ := hc i z hz
  refine ⟨u, cell_only hu (cell_ne hg hu (fun z' e => ?_)) ho, hI.only hg ho⟩
  obtain ⟨_, _, e', _⟩ := hI
  rw [e'] at e; cases e

theorem only_two (w : World) (g : Nat) (x y : Value) : Only (fun k => k = g) w ((w.setCell ⟨g, 0, none⟩ x).setCell ⟨g, 1, none⟩ y) := (Only.setCell (S := fun k => k = g) w (p := ⟨g, 0, none⟩) rfl x).trans (Only.setCell (S := fun k => k = g) _ (p := ⟨g, 1, none⟩) rfl y)

/-! The plain law. -/
def VS.eqB (s t : VS) : Bool := decide (s.a.toNat = t.a.toNat ∧ s.b.toNat = t.b.toNat)
theorem VS.eqB_iff (s t : VS) : s.eqB t = true ↔ s = t := by
  unfold VS.eqB
  rw [decide_eq_true_eq, VS.eq_iff]
  constructor
  · intro ⟨h1, h2⟩; exact ⟨BitVec.eq_of_toNat_eq h1, BitVec.eq_of_toNat_eq h2⟩
  · intro ⟨h1, h2⟩; rw [h1, h2]; exact ⟨rfl, rfl⟩
def onlyOther (a ch : VS) (b : VS) (ok : Bool) : VS := if ok then b.xor ch else a.union ch
theorem only_law {N : Int} {gs : List Gate} (he : (encodeOf N gs).e = 0) (a ch : VS) :
    let a' := a.cut (VS.all N)
    let ch' := (ch.cut (VS.all (encodeOf N gs).n)).minus (VS.all N)
    (extendOf N gs a').2 = evalOf N gs a' ∧ ((extendOf N gs a').2 = true → thEval (encodeOf N gs).n (encodeOf N gs).L (extendOf N gs a').1 = true) ∧
      thEval (encodeOf N gs).n (encodeOf N gs).L (onlyOther a' ch' (extendOf N gs a').1 (extendOf N gs a').2) = ((extendOf N gs a').2 && (onlyOther a' ch' (extendOf N gs a').1 (extendOf N gs a').2).eqB (extendOf N gs a').1) := by
  intro a' ch'
  obtain ⟨hc, _, _⟩ := encodeOf_ok he
  have hb := check_bounds hc
  have hok : (extendOf N gs a').2 = evalOf N gs a' := by
    cases h : evalOf N gs a' with
    | true => exact extend_ok.2 ⟨he, h⟩
    | false => rw [extend_no (.inr h)]
  refine ⟨hok, fun h => (extend_base h).2.2.2, ?_⟩
  have hna : noneOver N a' := cut_none a
  have hch : agree N ch' VS.empty := by
    intro v h1 h2
    have e : (VS.all N).has v = true := by rw [VS.has_all]; simp; omega
    rw [VS.has_minus, e, VS.has_empty]; simp
  have hcut : (onlyOther a' ch' (extendOf N gs a').1 (extendOf N gs a').2).cut (VS.all N) = a' := by
    apply cut_eq _ hna
    intro v h1 h2
    unfold onlyOther
    cases h : (extendOf N gs a').2 with
    | true =>
      have := (extend_base h).1
      have e := cut_agree hb.2.1 (extendOf N gs a').1 v h1 h2
      rw [this] at e
      rw [if_pos rfl, VS.has_xor, hch v h1 h2, VS.has_empty, e]; simp
    | false =>
      rw [if_neg (by simp), VS.has_union, hch v h1 h2, VS.has_empty]; simp
  have hm := models_iff he (onlyOther a' ch' (extendOf N gs a').1 (extendOf N gs a').2)
  rw [hcut] at hm
  rw [Bool.eq_iff_iff, hm]
  rw [Bool.and_eq_true, VS.eqB_iff, hok]

set_option maxRecDepth 100000 in
set_option maxHeartbeats 6400000 in
theorem only_ok (hworks : WorksOk) (N : Int) (V : Value) (gs : List Gate) (a ch : VS) (w : World) (B : Nat) (hB : B ≤ w.heap.size) (hg : GatesV w B V gs) (hN : -9223372036854775808 ≤ N) (hN' : N ≤ 9223372036854775807) :
    Calls Try.prog 10 #[.agg #[.int .i64 N, V], (.agg #[.int .u64 ((a).a.toNat : Int), .int .u64 ((a).b.toNat : Int)]), (.agg #[.int .u64 ((ch).a.toNat : Int), .int .u64 ((ch).b.toNat : Int)])] w fun e w' => e = .returned (.bool true) ∧ Below w.heap.size w w' := by
  obtain ⟨A, c, rfl, hlc, hcm, _⟩ := id hg
  unfold maxLen at hcm
  have a1 : ∀ (w1 : World), Below w.heap.size w w1 → Calls Try.prog 11 #[.agg #[.int .i64 N, .slice A gs.length c]] w1 fun e w' => e = .returned (.bool (decide (gs.length ≤ 60) && gs.all fun g => decide (g.inp.length ≤ 150))) ∧ Below w1.heap.size w1 w' :=
    fun w1 hb => law10_light N _ gs w1 B (Nat.le_trans hB hb.size) (hg.below (hb.mono hB))
  obtain ⟨y, hy⟩ : ∃ y, y = (decide (gs.length ≤ 60) && gs.all fun g => decide (g.inp.length ≤ 150)) := ⟨_, rfl⟩
  rw [← hy] at a1
  cases y
  · have A1 := Lib.hid a1
    have HW := Lib.hid hworks
    clear a1 hworks hy
    go_enter Try.func10, Try.ntmps10
    go_wp2_with fail
    refine (A1.out _ (by go_grown)).mono ?_
    rintro e w1 ⟨rfl, hb1⟩
    go_wp2_with fail
    refine (HW.out _).mono ?_
    rintro e w2 ⟨rfl, hb2⟩
    go_wp2
    go_ret
    exact ⟨rfl, (Below.trans (by go_grown) (hb1.mono (by simp <;> omega))).trans (hb2.mono (Nat.le_trans (by simp <;> omega) hb1.size))⟩
  · have hs := light_size hy.symm
    have k2 : ∀ (w1 : World), Below w.heap.size w w1 → Calls Try.prog 13 #[.agg #[.int .i64 N, .slice A gs.length c]] w1 fun e w' => (∃ LV GV, e = .returned (.tuple #[.agg #[.int .i64 (encodeOf N gs).n, LV], GV, .int .i64 (encodeOf N gs).e]) ∧ RowsV w' w'.heap.size LV (encodeOf N gs).L ∧ IntsV w' w'.heap.size GV (encodeOf N gs).gate) ∧ Below w1.heap.size w1 w' :=
      fun w1 hb => tseitin_encode N _ gs w1 B (Nat.le_trans hB hb.size) (hg.below (hb.mono hB)) (by omega)
    have k3 : ∀ (s : VS) (w1 : World), Below w.heap.size w w1 → Calls Try.prog 17 #[.agg #[.int .i64 N, .slice A gs.length c], (.agg #[.int .u64 ((s).a.toNat : Int), .int .u64 ((s).b.toNat : Int)])] w1 fun e w' => e = .returned (.tuple #[(.agg #[.int .u64 (((extendOf N gs s).1).a.toNat : Int), .int .u64 (((extendOf N gs s).1).b.toNat : Int)]), .bool (extendOf N gs s).2]) ∧ Below w1.heap.size w1 w' :=
      fun s w1 hb => tseitin_extend N _ gs s w1 B (Nat.le_trans hB hb.size) (hg.below (hb.mono hB)) (by omega) hN hN'
    have hl1 := (light_inp hy.symm).1
    clear hy
    have A1 := Lib.hid a1
    have K2 := Lib.hid k2
    have HW := Lib.hid hworks
    clear a1 k2 hworks
    by_cases he : (encodeOf N gs).e = 0
    · have hlaw := only_law he a ch
      have hz := (thCheck_zero (encodeOf N gs).n (encodeOf N gs).L).1 (by have := (encodeOf_ok he); rw [this.2.1]; exact this.2.2)
      have hn0 := hz.1
      have hn1 := hz.2.1
      have hn2 := hz.2.2.1
      clear hz
      simp only at hlaw
      have ka1 : ∀ W, Calls Try.prog 22 #[.int .i64 N] W fun e w' => e = .returned (.agg #[.int .u64 ((VS.all N).a.toNat : Int), .int .u64 ((VS.all N).b.toNat : Int)]) ∧ Below W.heap.size W w' := fun W => ref03_all N W
      have ka2 : ∀ W, Calls Try.prog 22 #[.int .i64 (encodeOf N gs).n] W fun e w' => e = .returned (.agg #[.int .u64 ((VS.all (encodeOf N gs).n).a.toNat : Int), .int .u64 ((VS.all (encodeOf N gs).n).b.toNat : Int)]) ∧ Below W.heap.size W w' := fun W => ref03_all (encodeOf N gs).n W
      have kc1 : ∀ W, Calls Try.prog 21 #[(.agg #[.int .u64 ((a).a.toNat : Int), .int .u64 ((a).b.toNat : Int)]), (.agg #[.int .u64 ((VS.all N).a.toNat : Int), .int .u64 ((VS.all N).b.toNat : Int)])] W fun e w' => e = .returned (.agg #[.int .u64 ((a.cut (VS.all N)).a.toNat : Int), .int .u64 ((a.cut (VS.all N)).b.toNat : Int)]) ∧ Below W.heap.size W w' := fun W => ref03_cut a.a a.b (VS.all N).a (VS.all N).b W
      have kc2 : ∀ W, Calls Try.prog 21 #[(.agg #[.int .u64 ((ch).a.toNat : Int), .int .u64 ((ch).b.toNat : Int)]), (.agg #[.int .u64 ((VS.all (encodeOf N gs).n).a.toNat : Int), .int .u64 ((VS.all (encodeOf N gs).n).b.toNat : Int)])] W fun e w' => e = .returned (.agg #[.int .u64 ((ch.cut (VS.all (encodeOf N gs).n)).a.toNat : Int), .int .u64 ((ch.cut (VS.all (encodeOf N gs).n)).b.toNat : Int)]) ∧ Below W.heap.size W w' := fun W => ref03_cut ch.a ch.b (VS.all (encodeOf N gs).n).a (VS.all (encodeOf N gs).n).b W
      have km : ∀ W, Calls Try.prog 28 #[(.agg #[.int .u64 ((ch.cut (VS.all (encodeOf N gs).n)).a.toNat : Int), .int .u64 ((ch.cut (VS.all (encodeOf N gs).n)).b.toNat : Int)]), (.agg #[.int .u64 ((VS.all N).a.toNat : Int), .int .u64 ((VS.all N).b.toNat : Int)])] W fun e w' => e = .returned (.agg #[.int .u64 (((ch.cut (VS.all (encodeOf N gs).n)).minus (VS.all N)).a.toNat : Int), .int .u64 (((ch.cut (VS.all (encodeOf N gs).n)).minus (VS.all N)).b.toNat : Int)]) ∧ Below W.heap.size W w' :=
        fun W => ref03_minus (ch.cut (VS.all (encodeOf N gs).n)).a (ch.cut (VS.all (encodeOf N gs).n)).b (VS.all N).a (VS.all N).b W
      have ku : ∀ W, Calls Try.prog 29 #[(.agg #[.int .u64 ((a.cut (VS.all N)).a.toNat : Int), .int .u64 ((a.cut (VS.all N)).b.toNat : Int)]), (.agg #[.int .u64 (((ch.cut (VS.all (encodeOf N gs).n)).minus (VS.all N)).a.toNat : Int), .int .u64 (((ch.cut (VS.all (encodeOf N gs).n)).minus (VS.all N)).b.toNat : Int)])] W fun e w' => e = .returned (.agg #[.int .u64 (((a.cut (VS.all N)).union ((ch.cut (VS.all (encodeOf N gs).n)).minus (VS.all N))).a.toNat : Int), .int .u64 (((a.cut (VS.all N)).union ((ch.cut (VS.all (encodeOf N gs).n)).minus (VS.all N))).b.toNat : Int)]) ∧ Below W.heap.size W w' :=
        fun W => ref03_union _ _ W
      have k3' := k3 (a.cut (VS.all N))
      have k4 : ∀ (w1 : World), Below w.heap.size w w1 → Calls Try.prog 26 #[.agg #[.int .i64 N, .slice A gs.length c], (.agg #[.int .u64 ((a.cut (VS.all N)).a.toNat : Int), .int .u64 ((a.cut (VS.all N)).b.toNat : Int)])] w1 fun e w' => e = .returned (.bool (extendOf N gs (a.cut (VS.all N))).2) ∧ Below w1.heap.size w1 w' :=
        fun w1 hb => by
          rw [hlaw.1]
          exact circ_eval N _ gs (a.cut (VS.all N)).a (a.cut (VS.all N)).b w1 B (Nat.le_trans hB hb.size) (hg.below (hb.mono hB)) (by omega) hN hN'
      have k5 : ∀ (s : VS) (W : World) (B' : Nat) (V' : Value), B' ≤ W.heap.size → RowsV W B' V' (encodeOf N gs).L → Calls Try.prog 27 #[.agg #[.int .i64 (encodeOf N gs).n, V'], (.agg #[.int .u64 ((s).a.toNat : Int), .int .u64 ((s).b.toNat : Int)])] W fun e w' => e = .returned (.bool (thEval (encodeOf N gs).n (encodeOf N gs).L s)) ∧ Below W.heap.size W w' :=
        fun s W B' V' h1 h2 => theory_eval (encodeOf N gs).n V' (encodeOf N gs).L s W B' h1 h2 (by omega) (by omega)
      obtain ⟨_, hlaw1, hlaw2⟩ := hlaw
      generalize (ch.cut (VS.all (encodeOf N gs).n)).minus (VS.all N) = cc at km ku hlaw2
      generalize ch.cut (VS.all (encodeOf N gs).n) = cc0 at kc2 km
      generalize VS.all (encodeOf N gs).n = an at ka2 kc2
      generalize a.cut (VS.all N) = ac at kc1 ku k3' k4 hlaw1 hlaw2
      generalize VS.all N = aN at ka1 kc1 km
      generalize extendOf N gs ac = x at k3' k4 hlaw1 hlaw2
      clear k3
      generalize encodeOf N gs = r at *
      obtain ⟨re, rn, rL, rg⟩ := r
      obtain ⟨xb, xo⟩ := x
      simp only at he K2 k3' k4 k5 hlaw1 hlaw2 ka2 hn0 hn1 hn2
      subst he
      have KA1 := Lib.hid ka1
      have KA2 := Lib.hid ka2
      have KC1 := Lib.hid kc1
      have KC2 := Lib.hid kc2
      have KM0 := Lib.hid km
      have KU := Lib.hid ku
      have K3 := Lib.hid k3'
      have K4 := Lib.hid k4
      have K5 := Lib.hid k5
      have LAW1 := Lib.hid hlaw1
      have LAW2 := Lib.hid hlaw2
      clear ka1 ka2 kc1 kc2 km ku k3' k4 k5 hlaw1 hlaw2
      go_enter Try.func10, Try.ntmps10
      go_wp2_with fail
      refine (A1.out _ (by go_grown)).mono ?_
      rintro e w1 ⟨rfl, hb1⟩
      have hc1 := (((Blk.new w 24 #[.int .i64 N, .slice A gs.length c]).alloc (.cells #[.int .u64 (a.a.toNat : Int), .int .u64 (a.b.toNat : Int)] 38)).alloc (.cells #[.int .u64 (ch.a.toNat : Int), .int .u64 (ch.b.toNat : Int)] 38)).keep hb1
      have ha1 := ((Blk.new_ (w := w.alloc (.cells #[.int .i64 N, .slice A gs.length c] 24)) (g := w.heap.size + 1) (t := 38) (cs := #[.int .u64 (a.a.toNat : Int), .int .u64 (a.b.toNat : Int)]) (by simp)).alloc (.cells #[.int .u64 (ch.a.toNat : Int), .int .u64 (ch.b.toNat : Int)] 38)).keep hb1
      have hh1 := (Blk.new_ (w := (w.alloc (.cells #[.int .i64 N, .slice A gs.length c] 24)).alloc (.cells #[.int .u64 (a.a.toNat : Int), .int .u64 (a.b.toNat : Int)] 38)) (g := w.heap.size + 1 + 1) (t := 38) (cs := #[.int .u64 (ch.a.toNat : Int), .int .u64 (ch.b.toNat : Int)]) (by simp)).keep hb1
      have hb1' : Below w.heap.size w w1 := Below.trans (by go_grown) (hb1.mono (by simp <;> omega))
      have c0 := hc1.cell 0
      have c1 := hc1.cell 1
      simp at c0 c1
      have lt1 := hc1.lt
      have HC1 := Lib.hid hc1
      have HA1 := Lib.hid ha1
      have HH1 := Lib.hid hh1
      clear hb1 hc1 ha1 hh1
      go_wp2_with fail
      refine (K2.out _ hb1').mono ?_
      rintro e w2 ⟨⟨LV, GV, rfl, hLV, hGV⟩, hb2⟩
      obtain ⟨A2, c2, rfl, hl2, hm2, _⟩ := id hLV
      unfold maxLen at hm2
      have hc2 := HC1.out.keep hb2
      have ha2 := HA1.out.keep hb2
      have hh2 := HH1.out.keep hb2
      have hb2' : Below w.heap.size w w2 := hb1'.trans (hb2.mono hb1'.size)
      have c0 := hc2.cell 0
      have c1 := hc2.cell 1
      have d0 := ha2.cell 0
      have d1 := ha2.cell 1
      simp at c0 c1 d0 d1
      have lt2 := hc2.lt
      have lt2' := ha2.lt
      have lt2'' := hh2.lt
      have HC2 := Lib.hid hc2
      have HA2 := Lib.hid ha2
      have HH2 := Lib.hid hh2
      have HL2 := Lib.hid hLV
      clear hb2 hb1' hc2 ha2 hh2 HC1 HA1 HH1 lt1 hLV hGV
      go_wp2
      have hb23 : Below w2.heap.size w2 (w2.alloc (.cells #[.int .i64 rn, .slice A2 rL.length c2] 29)) := by go_grown
      have ht3 : Blk (w2.alloc (.cells #[.int .i64 rn, .slice A2 rL.length c2] 29)) w2.heap.size 29 #[.int .i64 rn, .slice A2 rL.length c2] := Blk.new _ _ _
      generalize w2.alloc (.cells #[.int .i64 rn, .slice A2 rL.length c2] 29) = w3 at hb23 ht3 ⊢
      have hc3 := HC2.out.keep hb23
      have ha3 := HA2.out.keep hb23
      have hh3 := HH2.out.keep hb23
      have hl3 := HL2.out.below hb23
      have hb3' : Below w.heap.size w w3 := hb2'.trans (hb23.mono hb2'.size)
      have lt3 := ht3.lt
      have HC3 := Lib.hid hc3
      have HA3 := Lib.hid ha3
      have HH3 := Lib.hid hh3
      have HL3 := Lib.hid hl3
      have HT3 := Lib.hid ht3
      clear hb23 ht3 hc3 ha3 hh3 hl3 HC2 HA2 HH2 HL2 c0 c1 d0 d1
      go_cut [] from 44 (fun wx => Blk wx (w.heap.size + 1) 38 #[.int .u64 (ac.a.toNat : Int), .int .u64 (ac.b.toNat : Int)] ∧ Only (fun k => k = (w.heap.size + 1)) w3 wx)
      case first =>
          have C0 := HC3.out.later 0 _ rfl
          have E0 := HA3.out.later 0 _ rfl
          have E1 := HA3.out.later 1 _ rfl
          have hbB : Below w3.heap.size w3 w3.drew := (Below.refl _ _).drew
          have c0 := C0 _ hbB
          have d0 := E0 _ hbB
          have d1 := E1 _ hbB
          have KA1 := Lib.hid (fun W (hW : Below w3.heap.size w3 W) => kept (w1 := w3) (KA1.out W) hW)
          have KC1 := Lib.hid (fun W (hW : Below w3.heap.size w3 W) => kept (w1 := w3) (KC1.out W) hW)
          refine wp_region_held_drew (S := fun w' => w'.cell? ⟨w.heap.size, 0, none⟩ = some (.int .i64 N)) (by kernel_rfl) (by (try dsimp only); go_keep) (fun hHeld => ?_)
          refine wpAnyH_take (i := 1) (v := ?_) rfl (by kernel_rfl) (by kernel_rfl) (by kernel_rfl) (fun _ _ _ h => h) (Or.inl ⟨by rfl, ?_⟩) (by assumption) ?_
          rotate_left
          · (intro w hSw; (try dsimp only at hSw); go_simp; try with_reducible rfl)
          simp only [Act.put]
          refine wpAnyH_take (i := 2) (v := ?_) rfl (by kernel_rfl) (by kernel_rfl) (by kernel_rfl) (fun _ _ _ h => h) (Or.inl ⟨by rfl, ?_⟩) (by assumption) ?_
          rotate_left
          · (intro w hSw; (try dsimp only at hSw); go_simp; try with_reducible rfl)
          simp only [Act.put]
          refine wpAnyH_ready (rs := [0, 3]) (by kernel_rfl) (by simp) ?_
          refine AllReadyH.cons rfl (fun K hK => ?_) (AllReadyH.cons rfl (fun K hK => ?_) AllReadyH.nil)
          · go_simp
            refine hK.out _ _ (C0 _ hbB) (fun hHeld => ?_)
            clear hK K
            refine wpAnyH_ready (rs := [3]) (by kernel_rfl) (by simp) ?_
            refine AllReadyH.cons rfl (fun K hK => ?_) AllReadyH.nil
            go_simp
            go_at_call 22
            refine (KA1.out _ hbB).mono ?_
            rintro e w4 ⟨rfl, hB4⟩
            dsimp only
            refine hK.out _ _ (C0 _ hB4) (fun hHeld => ?_)
            clear hK K
            refine wpAnyH_ready (rs := [4]) (by kernel_rfl) (by simp) ?_
            refine AllReadyH.cons rfl (fun K hK => ?_) AllReadyH.nil
            go_simp
            go_at_call 21
            refine (KC1.out _ hB4).mono ?_
            rintro e w5 ⟨rfl, hB5⟩
            dsimp only
            refine hK.out _ _ (C0 _ hB5) (fun hHeld => ?_)
            clear hK K
            refine wpAnyH_ready (rs := [5]) (by kernel_rfl) (by simp) ?_
            refine AllReadyH.cons rfl (fun K hK => ?_) AllReadyH.nil
            have b5 := HA3.out.keep hB5
            have q0 := b5.cell 0
            have q1 := b5.cell 1
            have f0 := b5.free 0
            have f1 := b5.free 1
            simp at q0 q1
            go_simp
            refine hK.out _ _ (Only.cell0 (only_two w5 (w.heap.size + 1) _ _) (C0 _ hB5) (by simp <;> omega)) (fun hHeld => ?_)
            clear hK K
            refine wpAnyH_done (by kernel_rfl) ?_ _
            have hO := (Only.of_below (S := fun k => k = (w.heap.size + 1)) hB5).trans (only_two w5 (w.heap.size + 1) (.int .u64 (ac.a.toNat : Int)) (.int .u64 (ac.b.toNat : Int)))
            have hP := (b5.put 0 (.int .u64 (ac.a.toNat : Int))).put 1 (.int .u64 (ac.b.toNat : Int))
            simp at hP
            clear hHeld
            go_wp2_with fail
            go_meet
            exact ⟨hP, hO⟩
          · go_simp
            go_at_call 22
            refine (KA1.out _ hbB).mono ?_
            rintro e w4 ⟨rfl, hB4⟩
            dsimp only
            refine hK.out _ _ (C0 _ hB4) (fun hHeld => ?_)
            clear hK K
            refine wpAnyH_ready (rs := [0]) (by kernel_rfl) (by simp) ?_
            refine AllReadyH.cons rfl (fun K hK => ?_) AllReadyH.nil
            have d0 := E0 _ hB4
            have d1 := E1 _ hB4
            go_simp
            refine hK.out _ _ (C0 _ hB4) (fun hHeld => ?_)
            clear hK K
            refine wpAnyH_ready (rs := [4]) (by kernel_rfl) (by simp) ?_
            refine AllReadyH.cons rfl (fun K hK => ?_) AllReadyH.nil
            go_simp
            go_at_call 21
            refine (KC1.out _ hB4).mono ?_
            rintro e w5 ⟨rfl, hB5⟩
            dsimp only
            refine hK.out _ _ (C0 _ hB5) (fun hHeld => ?_)
            clear hK K
            refine wpAnyH_ready (rs := [5]) (by kernel_rfl) (by simp) ?_
            refine AllReadyH.cons rfl (fun K hK => ?_) AllReadyH.nil
            have b5 := HA3.out.keep hB5
            have q0 := b5.cell 0
            have q1 := b5.cell 1
            have f0 := b5.free 0
            have f1 := b5.free 1
            simp at q0 q1
            go_simp
            refine hK.out _ _ (Only.cell0 (only_two w5 (w.heap.size + 1) _ _) (C0 _ hB5) (by simp <;> omega)) (fun hHeld => ?_)
            clear hK K
            refine wpAnyH_done (by kernel_rfl) ?_ _
            have hO := (Only.of_below (S := fun k => k = (w.heap.size + 1)) hB5).trans (only_two w5 (w.heap.size + 1) (.int .u64 (ac.a.toNat : Int)) (.int .u64 (ac.b.toNat : Int)))
            have hP := (b5.put 0 (.int .u64 (ac.a.toNat : Int))).put 1 (.int .u64 (ac.b.toNat : Int))
            simp at hP
            clear hHeld
            go_wp2_with fail
            go_meet
            exact ⟨hP, hO⟩
      case rest =>
        obtain ⟨ha4, ho4⟩ := hcut
        have hb34 : Below w.heap.size w3 wc := ho4.below (by have := hb3'.size; omega) (fun k hk => by omega)
        have hb4' : Below w.heap.size w wc := hb3'.trans hb34
        have hc4 := ho4.blk HC3.out (by show ¬ _ = _; omega)
        have hh4 := ho4.blk HH3.out (by show ¬ _ = _; omega)
        have ht4 := ho4.blk HT3.out (by show ¬ _ = _; omega)
        have hl4 := HL3.out.only HA3.out ho4
        have c0 := hc4.cell 0
        have c1 := hc4.cell 1
        have d0 := ha4.cell 0
        have d1 := ha4.cell 1
        simp at c0 c1 d0 d1
        have lt4 := hc4.lt
        have lt4' := ha4.lt
        have lt5 := ht4.lt
        have HC4 := Lib.hid hc4
        have HA4 := Lib.hid ha4
        have HH4 := Lib.hid hh4
        have HT4 := Lib.hid ht4
        have HL4 := Lib.hid hl4
        clear hc4 ha4 hh4 ht4 hl4 ho4 HC3 HA3 HH3 HT3 HL3 hb34
        go_wp2_with fail
        refine (K3.out _ hb4').mono ?_
        rintro e w5 ⟨rfl, hb5⟩
        have hb5' : Below w.heap.size w w5 := hb4'.trans (hb5.mono hb4'.size)
        have hc5 := HC4.out.keep hb5
        have ha5 := HA4.out.keep hb5
        have hh5 := HH4.out.keep hb5
        have ht5 := HT4.out.keep hb5
        have hl5 := HL4.out.below (hb5.mono (Nat.le_of_lt lt5))
        have c0 := hc5.cell 0
        have c1 := hc5.cell 1
        have d0 := ha5.cell 0
        have d1 := ha5.cell 1
        have t0 := ht5.cell 0
        have t1 := ht5.cell 1
        simp at c0 c1 d0 d1 t0 t1
        have lt6 := hc5.lt
        have lt6' := ha5.lt
        have lt7 := ht5.lt
        have HC5 := Lib.hid hc5
        have HA5 := Lib.hid ha5
        have HH5 := Lib.hid hh5
        have HT5 := Lib.hid ht5
        have HL5 := Lib.hid hl5
        clear hc5 ha5 hh5 ht5 hl5 HC4 HA4 HH4 HT4 HL4 hb5 hb4'
        go_wp2_with fail
        refine (K4.out _ (by have := hb5'.size; exact hb5'.trans (by go_grown))).mono ?_
        rintro e w6 ⟨rfl, hb6⟩
        have hb56 : Below w5.heap.size w5 w6 := Below.trans (by go_grown) (hb6.mono (by simp))
        have hx6 := (Blk.new w5 38 #[.int .u64 (xb.a.toNat : Int), .int .u64 (xb.b.toNat : Int)]).keep hb6
        have hb6' : Below w.heap.size w w6 := hb5'.trans (hb56.mono hb5'.size)
        have hc6 := HC5.out.keep hb56
        have ha6 := HA5.out.keep hb56
        have hh6 := HH5.out.keep hb56
        have ht6 := HT5.out.keep hb56
        have hl6 := HL5.out.below (hb56.mono (Nat.le_of_lt lt7))
        have t0 := ht6.cell 0
        have t1 := ht6.cell 1
        have x0 := hx6.cell 0
        have x1 := hx6.cell 1
        simp at t0 t1 x0 x1
        have lt8 := hc6.lt
        have lt9 := ht6.lt
        have lt10 := hx6.lt
        have HC6 := Lib.hid hc6
        have HA6 := Lib.hid ha6
        have HH6 := Lib.hid hh6
        have HT6 := Lib.hid ht6
        have HL6 := Lib.hid hl6
        have HX6 := Lib.hid hx6
        clear hc6 ha6 hh6 ht6 hl6 hx6 HC5 HA5 HH5 HT5 HL5 hb6 hb5' hb56 c0 c1 d0 d1
        cases xo
        · have HCq := HC6
          have HAq := HA6
          have HHq := HH6
          have HTq := HT6
          have HLq := HL6
          have HXq := HX6
          have hbq := hb6'
          clear HC6 HA6 HH6 HT6 HL6 HX6 hb6' LAW1
          generalize w6 = wq at *
          go_wp2
          go_cut [] from 69 (fun wx => Blk wx (w.heap.size + 1 + 1) 38 #[.int .u64 (cc.a.toNat : Int), .int .u64 (cc.b.toNat : Int)] ∧ Only (fun k => k = (w.heap.size + 1 + 1)) wq wx)
          case first =>
            have C0 := HCq.out.later 0 _ rfl
            have T0 := HTq.out.later 0 _ rfl
            have E0 := HHq.out.later 0 _ rfl
            have E1 := HHq.out.later 1 _ rfl
            have hbB : Below wq.heap.size wq wq.drew := (Below.refl _ _).drew
            have c0 := C0 _ hbB
            have t0 := T0 _ hbB
            have d0 := E0 _ hbB
            have d1 := E1 _ hbB
            have KA1 := Lib.hid (fun W (hW : Below wq.heap.size wq W) => kept (w1 := wq) (KA1.out W) hW)
            have KA2 := Lib.hid (fun W (hW : Below wq.heap.size wq W) => kept (w1 := wq) (KA2.out W) hW)
            have KC2 := Lib.hid (fun W (hW : Below wq.heap.size wq W) => kept (w1 := wq) (KC2.out W) hW)
            have KM := Lib.hid (fun W (hW : Below wq.heap.size wq W) => kept (w1 := wq) (KM0.out W) hW)
            refine wp_region_held_drew (S := fun w' => w'.cell? ⟨w.heap.size, 0, none⟩ = some (.int .i64 N) ∧ w'.cell? ⟨w2.heap.size, 0, none⟩ = some (.int .i64 rn)) (by kernel_rfl) (by (try dsimp only); go_keep) (fun hHeld => ?_)
            refine wpAnyH_take (i := 1) (v := ?_) rfl (by kernel_rfl) (by kernel_rfl) (by kernel_rfl) (fun _ _ _ h => h) (Or.inl ⟨by rfl, ?_⟩) (by assumption) ?_
            rotate_left
            · (intro w hSw; (try dsimp only at hSw); go_simp; try with_reducible rfl)
            simp only [Act.put]
            refine wpAnyH_take (i := 2) (v := ?_) rfl (by kernel_rfl) (by kernel_rfl) (by kernel_rfl) (fun _ _ _ h => h) (Or.inl ⟨by rfl, ?_⟩) (by assumption) ?_
            rotate_left
            · (intro w hSw; (try dsimp only at hSw); go_simp; try with_reducible rfl)
            simp only [Act.put]
            refine wpAnyH_take (i := 5) (v := ?_) rfl (by kernel_rfl) (by kernel_rfl) (by kernel_rfl) (fun _ _ _ h => h) (Or.inl ⟨by rfl, ?_⟩) (by assumption) ?_
            rotate_left
            · (intro w hSw; (try dsimp only at hSw); go_simp; try with_reducible rfl)
            simp only [Act.put]
            refine wpAnyH_take (i := 6) (v := ?_) rfl (by kernel_rfl) (by kernel_rfl) (by kernel_rfl) (fun _ _ _ h => h) (Or.inl ⟨by rfl, ?_⟩) (by assumption) ?_
            rotate_left
            · (intro w hSw; (try dsimp only at hSw); go_simp; try with_reducible rfl)
            simp only [Act.put]
            refine wpAnyH_ready (rs := [0, 3]) (by kernel_rfl) (by simp) ?_
            refine AllReadyH.cons rfl (fun K hK => ?_) (AllReadyH.cons rfl (fun K hK => ?_) AllReadyH.nil)
            · go_simp
              refine hK.out _ _ ⟨C0 _ hbB, T0 _ hbB⟩ (fun hHeld => ?_)
              clear hK K
              refine wpAnyH_ready (rs := [3]) (by kernel_rfl) (by simp) ?_
              refine AllReadyH.cons rfl (fun K hK => ?_) AllReadyH.nil
              go_simp
              go_at_call 22
              refine (KA2.out _ hbB).mono ?_
              rintro e w4 ⟨rfl, hB4⟩
              dsimp only
              refine hK.out _ _ ⟨C0 _ hB4, T0 _ hB4⟩ (fun hHeld => ?_)
              clear hK K
              refine wpAnyH_ready (rs := [4]) (by kernel_rfl) (by simp) ?_
              refine AllReadyH.cons rfl (fun K hK => ?_) AllReadyH.nil
              go_simp
              go_at_call 21
              refine (KC2.out _ hB4).mono ?_
              rintro e w5 ⟨rfl, hB5⟩
              dsimp only
              refine hK.out _ _ ⟨C0 _ hB5, T0 _ hB5⟩ (fun hHeld => ?_)
              clear hK K
              refine wpAnyH_ready (rs := [7]) (by kernel_rfl) (by simp) ?_
              refine AllReadyH.cons rfl (fun K hK => ?_) AllReadyH.nil
              go_simp
              go_at_call 22
              refine (KA1.out _ hB5).mono ?_
              rintro e w6 ⟨rfl, hB6⟩
              dsimp only
              refine hK.out _ _ ⟨C0 _ hB6, T0 _ hB6⟩ (fun hHeld => ?_)
              clear hK K
              refine wpAnyH_ready (rs := [8]) (by kernel_rfl) (by simp) ?_
              refine AllReadyH.cons rfl (fun K hK => ?_) AllReadyH.nil
              go_simp
              go_at_call 28
              refine (KM.out _ hB6).mono ?_
              rintro e w7 ⟨rfl, hB7⟩
              dsimp only
              refine hK.out _ _ ⟨C0 _ hB7, T0 _ hB7⟩ (fun hHeld => ?_)
              clear hK K
              refine wpAnyH_ready (rs := [9]) (by kernel_rfl) (by simp) ?_
              refine AllReadyH.cons rfl (fun K hK => ?_) AllReadyH.nil
              have b5 := HHq.out.keep hB7
              have q0 := b5.cell 0
              have q1 := b5.cell 1
              have f0 := b5.free 0
              have f1 := b5.free 1
              simp at q0 q1
              go_simp
              refine hK.out _ _ ⟨(Only.cell0 (only_two w7 (w.heap.size + 1 + 1) _ _) (C0 _ hB7) (by simp <;> omega)), (Only.cell0 (only_two w7 (w.heap.size + 1 + 1) _ _) (T0 _ hB7) (by simp <;> omega))⟩ (fun hHeld => ?_)
              clear hK K
              refine wpAnyH_done (by kernel_rfl) ?_ _
              have hO := (Only.of_below (S := fun k => k = (w.heap.size + 1 + 1)) hB7).trans (only_two w7 (w.heap.size + 1 + 1) (.int .u64 (cc.a.toNat : Int)) (.int .u64 (cc.b.toNat : Int)))
              have hP := (b5.put 0 (.int .u64 (cc.a.toNat : Int))).put 1 (.int .u64 (cc.b.toNat : Int))
              simp at hP
              clear hHeld
              go_wp2_with fail
              go_meet
              exact ⟨hP, hO⟩
            · go_simp
              go_at_call 22
              refine (KA2.out _ hbB).mono ?_
              rintro e w4 ⟨rfl, hB4⟩
              dsimp only
              refine hK.out _ _ ⟨C0 _ hB4, T0 _ hB4⟩ (fun hHeld => ?_)
              clear hK K
              refine wpAnyH_ready (rs := [0]) (by kernel_rfl) (by simp) ?_
              refine AllReadyH.cons rfl (fun K hK => ?_) AllReadyH.nil
              have d0 := E0 _ hB4
              have d1 := E1 _ hB4
              go_simp
              refine hK.out _ _ ⟨C0 _ hB4, T0 _ hB4⟩ (fun hHeld => ?_)
              clear hK K
              refine wpAnyH_ready (rs := [4]) (by kernel_rfl) (by simp) ?_
              refine AllReadyH.cons rfl (fun K hK => ?_) AllReadyH.nil
              go_simp
              go_at_call 21
              refine (KC2.out _ hB4).mono ?_
              rintro e w5 ⟨rfl, hB5⟩
              dsimp only
              refine hK.out _ _ ⟨C0 _ hB5, T0 _ hB5⟩ (fun hHeld => ?_)
              clear hK K
              refine wpAnyH_ready (rs := [7]) (by kernel_rfl) (by simp) ?_
              refine AllReadyH.cons rfl (fun K hK => ?_) AllReadyH.nil
              go_simp
              go_at_call 22
              refine (KA1.out _ hB5).mono ?_
              rintro e w6 ⟨rfl, hB6⟩
              dsimp only
              refine hK.out _ _ ⟨C0 _ hB6, T0 _ hB6⟩ (fun hHeld => ?_)
              clear hK K
              refine wpAnyH_ready (rs := [8]) (by kernel_rfl) (by simp) ?_
              refine AllReadyH.cons rfl (fun K hK => ?_) AllReadyH.nil
              go_simp
              go_at_call 28
              refine (KM.out _ hB6).mono ?_
              rintro e w7 ⟨rfl, hB7⟩
              dsimp only
              refine hK.out _ _ ⟨C0 _ hB7, T0 _ hB7⟩ (fun hHeld => ?_)
              clear hK K
              refine wpAnyH_ready (rs := [9]) (by kernel_rfl) (by simp) ?_
              refine AllReadyH.cons rfl (fun K hK => ?_) AllReadyH.nil
              have b5 := HHq.out.keep hB7
              have q0 := b5.cell 0
              have q1 := b5.cell 1
              have f0 := b5.free 0
              have f1 := b5.free 1
              simp at q0 q1
              go_simp
              refine hK.out _ _ ⟨(Only.cell0 (only_two w7 (w.heap.size + 1 + 1) _ _) (C0 _ hB7) (by simp <;> omega)), (Only.cell0 (only_two w7 (w.heap.size + 1 + 1) _ _) (T0 _ hB7) (by simp <;> omega))⟩ (fun hHeld => ?_)
              clear hK K
              refine wpAnyH_done (by kernel_rfl) ?_ _
              have hO := (Only.of_below (S := fun k => k = (w.heap.size + 1 + 1)) hB7).trans (only_two w7 (w.heap.size + 1 + 1) (.int .u64 (cc.a.toNat : Int)) (.int .u64 (cc.b.toNat : Int)))
              have hP := (b5.put 0 (.int .u64 (cc.a.toNat : Int))).put 1 (.int .u64 (cc.b.toNat : Int))
              simp at hP
              clear hHeld
              go_wp2_with fail
              go_meet
              exact ⟨hP, hO⟩
          case rest =>
            obtain ⟨hh8, ho8⟩ := hcut
            have hb8' : Below w.heap.size w wc := hbq.trans (ho8.below (by have := hbq.size; omega) (fun k hk => by omega))
            have ht8 := ho8.blk HTq.out (by show ¬ _ = _; omega)
            have hx8 := ho8.blk HXq.out (by show ¬ _ = _; omega)
            have ha8 := ho8.blk HAq.out (by show ¬ _ = _; omega)
            have hl8 := HLq.out.only HHq.out ho8
            have x0 := hx8.cell 0
            have x1 := hx8.cell 1
            have t0 := ht8.cell 0
            have t1 := ht8.cell 1
            have d0 := ha8.cell 0
            have d1 := ha8.cell 1
            have h0 := hh8.cell 0
            have h1 := hh8.cell 1
            simp at x0 x1 t0 t1 d0 d1 h0 h1
            have lt11 := ht8.lt
            have lt12 := hx8.lt
            have lt13 := hh8.lt
            have lt16 := ha8.lt
            have bx0 : bits .xor .u64 (xb.a.toNat : Int) (cc.a.toNat : Int) = ((xb.xor cc).a.toNat : Int) := bits_xor_bv xb.a cc.a
            have bx1 : bits .xor .u64 (xb.b.toNat : Int) (cc.b.toNat : Int) = ((xb.xor cc).b.toNat : Int) := bits_xor_bv xb.b cc.b
            have HT8 := Lib.hid ht8
            have HX8 := Lib.hid hx8
            have HL8 := Lib.hid hl8
            clear ht8 hx8 ha8 hh8 hl8 ho8 HCq HAq HHq HTq HLq HXq
            have k5o := K5.out (ac.union cc)
            have law : thEval rn rL (ac.union cc) = false := LAW2.out
            rw [law] at k5o
            clear law
            generalize VS.union ac cc = ot at KU k5o
            have K5O := Lib.hid k5o
            clear k5o
            generalize VS.xor xb cc = oo at bx0 bx1
            go_wp2_with fail
            refine (KU.out _).mono ?_
            rintro e w9 ⟨rfl, hb9⟩
            have hbc9 : Below wc.heap.size wc w9 := Below.trans (by go_grown) (hb9.mono (by simp))
            have ho9 := (Blk.new wc 38 #[.int .u64 (oo.a.toNat : Int), .int .u64 (oo.b.toNat : Int)]).keep hb9
            have ht9 := HT8.out.keep hbc9
            have t0 := ht9.cell 0
            have t1 := ht9.cell 1
            have o0 := ho9.cell 0
            have o1 := ho9.cell 1
            have of0 := ho9.free 0
            have of1 := ho9.free 1
            simp at t0 t1 o0 o1
            have lt14 := ht9.lt
            have lt15 := ho9.lt
            have hl9 := HL8.out.below (hbc9.mono (Nat.le_of_lt lt11))
            have HL9 := Lib.hid hl9
            clear ho9 ht9 hb9 hl9
            go_wp2_with fail
            refine (K5O.out _ w2.heap.size _ (by simp <;> omega) (HL9.out.below (((Below.refl _ _).setCell (by simp <;> omega) _).setCell (by simp <;> omega) _))).mono ?_
            rintro e w10 ⟨rfl, hb10⟩
            have hbc10 : Below wc.heap.size wc w10 := ((hbc9.setCell (by simp) _).setCell (by simp) _).trans (hb10.mono (by simp <;> omega))
            go_wp2_with fail
            refine (HW.out _).mono ?_
            rintro e w11 ⟨rfl, hb11⟩
            go_wp2
            go_ret
            exact ⟨rfl, hb8'.trans ((hbc10.mono hb8'.size).trans (hb11.mono (Nat.le_trans hb8'.size hbc10.size)))⟩
        · have k5b := K5.out xb
          rw [LAW1.out rfl] at k5b
          have K5B := Lib.hid k5b
          clear k5b
          go_wp2_with fail
          refine (K5B.out w6 w2.heap.size _ (by omega) HL6.out).mono ?_
          rintro e w7 ⟨rfl, hb7⟩
          have HCq := Lib.hid (HC6.out.keep hb7)
          have HAq := Lib.hid (HA6.out.keep hb7)
          have HHq := Lib.hid (HH6.out.keep hb7)
          have HTq := Lib.hid (HT6.out.keep hb7)
          have HXq := Lib.hid (HX6.out.keep hb7)
          have HLq := Lib.hid (HL6.out.below (hb7.mono (Nat.le_of_lt lt9)))
          have hbq := hb6'.trans (hb7.mono hb6'.size)
          have lt9 := HTq.out.lt
          have lt10 := HXq.out.lt
          clear HC6 HA6 HH6 HT6 HL6 HX6 hb6' LAW1 hb7 K5B
          generalize w7 = wq at *
          go_wp2
          go_cut [] from 69 (fun wx => Blk wx (w.heap.size + 1 + 1) 38 #[.int .u64 (cc.a.toNat : Int), .int .u64 (cc.b.toNat : Int)] ∧ Only (fun k => k = (w.heap.size + 1 + 1)) wq wx)
          case first =>
            have C0 := HCq.out.later 0 _ rfl
            have T0 := HTq.out.later 0 _ rfl
            have E0 := HHq.out.later 0 _ rfl
            have E1 := HHq.out.later 1 _ rfl
            have hbB : Below wq.heap.size wq wq.drew := (Below.refl _ _).drew
            have c0 := C0 _ hbB
            have t0 := T0 _ hbB
            have d0 := E0 _ hbB
            have d1 := E1 _ hbB
            have KA1 := Lib.hid (fun W (hW : Below wq.heap.size wq W) => kept (w1 := wq) (KA1.out W) hW)
            have KA2 := Lib.hid (fun W (hW : Below wq.heap.size wq W) => kept (w1 := wq) (KA2.out W) hW)
            have KC2 := Lib.hid (fun W (hW : Below wq.heap.size wq W) => kept (w1 := wq) (KC2.out W) hW)
            have KM := Lib.hid (fun W (hW : Below wq.heap.size wq W) => kept (w1 := wq) (KM0.out W) hW)
            refine wp_region_held_drew (S := fun w' => w'.cell? ⟨w.heap.size, 0, none⟩ = some (.int .i64 N) ∧ w'.cell? ⟨w2.heap.size, 0, none⟩ = some (.int .i64 rn)) (by kernel_rfl) (by (try dsimp only); go_keep) (fun hHeld => ?_)
            refine wpAnyH_take (i := 1) (v := ?_) rfl (by kernel_rfl) (by kernel_rfl) (by kernel_rfl) (fun _ _ _ h => h) (Or.inl ⟨by rfl, ?_⟩) (by assumption) ?_
            rotate_left
            · (intro w hSw; (try dsimp only at hSw); go_simp; try with_reducible rfl)
            simp only [Act.put]
            refine wpAnyH_take (i := 2) (v := ?_) rfl (by kernel_rfl) (by kernel_rfl) (by kernel_rfl) (fun _ _ _ h => h) (Or.inl ⟨by rfl, ?_⟩) (by assumption) ?_
            rotate_left
            · (intro w hSw; (try dsimp only at hSw); go_simp; try with_reducible rfl)
            simp only [Act.put]
            refine wpAnyH_take (i := 5) (v := ?_) rfl (by kernel_rfl) (by kernel_rfl) (by kernel_rfl) (fun _ _ _ h => h) (Or.inl ⟨by rfl, ?_⟩) (by assumption) ?_
            rotate_left
            · (intro w hSw; (try dsimp only at hSw); go_simp; try with_reducible rfl)
            simp only [Act.put]
            refine wpAnyH_take (i := 6) (v := ?_) rfl (by kernel_rfl) (by kernel_rfl) (by kernel_rfl) (fun _ _ _ h => h) (Or.inl ⟨by rfl, ?_⟩) (by assumption) ?_
            rotate_left
            · (intro w hSw; (try dsimp only at hSw); go_simp; try with_reducible rfl)
            simp only [Act.put]
            refine wpAnyH_ready (rs := [0, 3]) (by kernel_rfl) (by simp) ?_
            refine AllReadyH.cons rfl (fun K hK => ?_) (AllReadyH.cons rfl (fun K hK => ?_) AllReadyH.nil)
            · go_simp
              refine hK.out _ _ ⟨C0 _ hbB, T0 _ hbB⟩ (fun hHeld => ?_)
              clear hK K
              refine wpAnyH_ready (rs := [3]) (by kernel_rfl) (by simp) ?_
              refine AllReadyH.cons rfl (fun K hK => ?_) AllReadyH.nil
              go_simp
              go_at_call 22
              refine (KA2.out _ hbB).mono ?_
              rintro e w4 ⟨rfl, hB4⟩
              dsimp only
              refine hK.out _ _ ⟨C0 _ hB4, T0 _ hB4⟩ (fun hHeld => ?_)
              clear hK K
              refine wpAnyH_ready (rs := [4]) (by kernel_rfl) (by simp) ?_
              refine AllReadyH.cons rfl (fun K hK => ?_) AllReadyH.nil
              go_simp
              go_at_call 21
              refine (KC2.out _ hB4).mono ?_
              rintro e w5 ⟨rfl, hB5⟩
              dsimp only
              refine hK.out _ _ ⟨C0 _ hB5, T0 _ hB5⟩ (fun hHeld => ?_)
              clear hK K
              refine wpAnyH_ready (rs := [7]) (by kernel_rfl) (by simp) ?_
              refine AllReadyH.cons rfl (fun K hK => ?_) AllReadyH.nil
              go_simp
              go_at_call 22
              refine (KA1.out _ hB5).mono ?_
              rintro e w6 ⟨rfl, hB6⟩
              dsimp only
              refine hK.out _ _ ⟨C0 _ hB6, T0 _ hB6⟩ (fun hHeld => ?_)
              clear hK K
              refine wpAnyH_ready (rs := [8]) (by kernel_rfl) (by simp) ?_
              refine AllReadyH.cons rfl (fun K hK => ?_) AllReadyH.nil
              go_simp
              go_at_call 28
              refine (KM.out _ hB6).mono ?_
              rintro e w7 ⟨rfl, hB7⟩
              dsimp only
              refine hK.out _ _ ⟨C0 _ hB7, T0 _ hB7⟩ (fun hHeld => ?_)
              clear hK K
              refine wpAnyH_ready (rs := [9]) (by kernel_rfl) (by simp) ?_
              refine AllReadyH.cons rfl (fun K hK => ?_) AllReadyH.nil
              have b5 := HHq.out.keep hB7
              have q0 := b5.cell 0
              have q1 := b5.cell 1
              have f0 := b5.free 0
              have f1 := b5.free 1
              simp at q0 q1
              go_simp
              refine hK.out _ _ ⟨(Only.cell0 (only_two w7 (w.heap.size + 1 + 1) _ _) (C0 _ hB7) (by simp <;> omega)), (Only.cell0 (only_two w7 (w.heap.size + 1 + 1) _ _) (T0 _ hB7) (by simp <;> omega))⟩ (fun hHeld => ?_)
              clear hK K
              refine wpAnyH_done (by kernel_rfl) ?_ _
              have hO := (Only.of_below (S := fun k => k = (w.heap.size + 1 + 1)) hB7).trans (only_two w7 (w.heap.size + 1 + 1) (.int .u64 (cc.a.toNat : Int)) (.int .u64 (cc.b.toNat : Int)))
              have hP := (b5.put 0 (.int .u64 (cc.a.toNat : Int))).put 1 (.int .u64 (cc.b.toNat : Int))
              simp at hP
              clear hHeld
              go_wp2_with fail
              go_meet
              exact ⟨hP, hO⟩
            · go_simp
              go_at_call 22
              refine (KA2.out _ hbB).mono ?_
              rintro e w4 ⟨rfl, hB4⟩
              dsimp only
              refine hK.out _ _ ⟨C0 _ hB4, T0 _ hB4⟩ (fun hHeld => ?_)
              clear hK K
              refine wpAnyH_ready (rs := [0]) (by kernel_rfl) (by simp) ?_
              refine AllReadyH.cons rfl (fun K hK => ?_) AllReadyH.nil
              have d0 := E0 _ hB4
              have d1 := E1 _ hB4
              go_simp
              refine hK.out _ _ ⟨C0 _ hB4, T0 _ hB4⟩ (fun hHeld => ?_)
              clear hK K
              refine wpAnyH_ready (rs := [4]) (by kernel_rfl) (by simp) ?_
              refine AllReadyH.cons rfl (fun K hK => ?_) AllReadyH.nil
              go_simp
              go_at_call 21
              refine (KC2.out _ hB4).mono ?_
              rintro e w5 ⟨rfl, hB5⟩
              dsimp only
              refine hK.out _ _ ⟨C0 _ hB5, T0 _ hB5⟩ (fun hHeld => ?_)
              clear hK K
              refine wpAnyH_ready (rs := [7]) (by kernel_rfl) (by simp) ?_
              refine AllReadyH.cons rfl (fun K hK => ?_) AllReadyH.nil
              go_simp
              go_at_call 22
              refine (KA1.out _ hB5).mono ?_
              rintro e w6 ⟨rfl, hB6⟩
              dsimp only
              refine hK.out _ _ ⟨C0 _ hB6, T0 _ hB6⟩ (fun hHeld => ?_)
              clear hK K
              refine wpAnyH_ready (rs := [8]) (by kernel_rfl) (by simp) ?_
              refine AllReadyH.cons rfl (fun K hK => ?_) AllReadyH.nil
              go_simp
              go_at_call 28
              refine (KM.out _ hB6).mono ?_
              rintro e w7 ⟨rfl, hB7⟩
              dsimp only
              refine hK.out _ _ ⟨C0 _ hB7, T0 _ hB7⟩ (fun hHeld => ?_)
              clear hK K
              refine wpAnyH_ready (rs := [9]) (by kernel_rfl) (by simp) ?_
              refine AllReadyH.cons rfl (fun K hK => ?_) AllReadyH.nil
              have b5 := HHq.out.keep hB7
              have q0 := b5.cell 0
              have q1 := b5.cell 1
              have f0 := b5.free 0
              have f1 := b5.free 1
              simp at q0 q1
              go_simp
              refine hK.out _ _ ⟨(Only.cell0 (only_two w7 (w.heap.size + 1 + 1) _ _) (C0 _ hB7) (by simp <;> omega)), (Only.cell0 (only_two w7 (w.heap.size + 1 + 1) _ _) (T0 _ hB7) (by simp <;> omega))⟩ (fun hHeld => ?_)
              clear hK K
              refine wpAnyH_done (by kernel_rfl) ?_ _
              have hO := (Only.of_below (S := fun k => k = (w.heap.size + 1 + 1)) hB7).trans (only_two w7 (w.heap.size + 1 + 1) (.int .u64 (cc.a.toNat : Int)) (.int .u64 (cc.b.toNat : Int)))
              have hP := (b5.put 0 (.int .u64 (cc.a.toNat : Int))).put 1 (.int .u64 (cc.b.toNat : Int))
              simp at hP
              clear hHeld
              go_wp2_with fail
              go_meet
              exact ⟨hP, hO⟩
          case rest =>
            obtain ⟨hh8, ho8⟩ := hcut
            have hb8' : Below w.heap.size w wc := hbq.trans (ho8.below (by have := hbq.size; omega) (fun k hk => by omega))
            have ht8 := ho8.blk HTq.out (by show ¬ _ = _; omega)
            have hx8 := ho8.blk HXq.out (by show ¬ _ = _; omega)
            have ha8 := ho8.blk HAq.out (by show ¬ _ = _; omega)
            have hl8 := HLq.out.only HHq.out ho8
            have x0 := hx8.cell 0
            have x1 := hx8.cell 1
            have t0 := ht8.cell 0
            have t1 := ht8.cell 1
            have d0 := ha8.cell 0
            have d1 := ha8.cell 1
            have h0 := hh8.cell 0
            have h1 := hh8.cell 1
            simp at x0 x1 t0 t1 d0 d1 h0 h1
            have lt11 := ht8.lt
            have lt12 := hx8.lt
            have lt13 := hh8.lt
            have lt16 := ha8.lt
            have bx0 : bits .xor .u64 (xb.a.toNat : Int) (cc.a.toNat : Int) = ((xb.xor cc).a.toNat : Int) := bits_xor_bv xb.a cc.a
            have bx1 : bits .xor .u64 (xb.b.toNat : Int) (cc.b.toNat : Int) = ((xb.xor cc).b.toNat : Int) := bits_xor_bv xb.b cc.b
            have HT8 := Lib.hid ht8
            have HX8 := Lib.hid hx8
            have HL8 := Lib.hid hl8
            clear ht8 hx8 ha8 hh8 hl8 ho8 HCq HAq HHq HTq HLq HXq
            obtain ⟨ot, hot⟩ : ∃ ot, ot = xb.xor cc := ⟨_, rfl⟩
            have law : thEval rn rL ot = ot.eqB xb := by rw [hot]; exact LAW2.out
            rw [← hot] at bx0 bx1
            clear hot
            have k5o := K5.out ot
            rw [law] at k5o
            have he : ∀ W, (Op.equalIn 10000 38 (.agg #[.int .u64 (ot.a.toNat : Int), .int .u64 (ot.b.toNat : Int)]) (.agg #[.int .u64 (xb.a.toNat : Int), .int .u64 (xb.b.toNat : Int)])).run Try.prog W = .ok (ot.eqB xb) W := fun W => sets_eq _ _ _ _ W
            generalize ot.eqB xb = z at k5o he law
            have K5O := Lib.hid k5o
            clear k5o law
            go_wp2_with fail
            refine (K5O.out _ w2.heap.size _ (by simp <;> omega) (HL8.out.below (by go_grown))).mono ?_
            rintro e w9 ⟨rfl, hb9⟩
            have hbc9 : Below wc.heap.size wc w9 := Below.trans (by go_grown) (hb9.mono (by simp))
            have ho9 := (Blk.new wc 38 #[.int .u64 (ot.a.toNat : Int), .int .u64 (ot.b.toNat : Int)]).keep hb9
            have hx9 := HX8.out.keep hbc9
            have x0 := hx9.cell 0
            have x1 := hx9.cell 1
            have o0 := ho9.cell 0
            have o1 := ho9.cell 1
            simp at x0 x1 o0 o1
            have lt14 := hx9.lt
            have lt15 := ho9.lt
            clear ho9 hx9 hb9
            cases z
            all_goals
              go_wp2_with fail
              refine (HW.out _).mono ?_
              rintro e w10 ⟨rfl, hb10⟩
              go_wp2
              go_ret
              exact ⟨rfl, hb8'.trans ((hbc9.mono hb8'.size).trans (hb10.mono (Nat.le_trans hb8'.size hbc9.size)))⟩
    · have he' : ((encodeOf N gs).e != 0) = true := by simpa using he
      have hL : (encodeOf N gs).L = [] := by
        have := encodeOf_eq N gs
        split at this
        · rw [this]; rfl
        · split at this
          · rw [this] at he; exact absurd rfl he
          · rw [this]; rfl
      have k3' := k3 a
      rw [extend_no (.inl he)] at k3'
      have K3 := Lib.hid k3'
      clear k3 k3' he
      generalize encodeOf N gs = r at *
      obtain ⟨re, rn, rL, rg⟩ := r
      simp only at he' hL K2
      subst hL
      go_enter Try.func10, Try.ntmps10
      go_wp2_with fail
      refine (A1.out _ (by go_grown)).mono ?_
      rintro e w1 ⟨rfl, hb1⟩
      have hc1 := (((Blk.new w 24 #[.int .i64 N, .slice A gs.length c]).alloc (.cells #[.int .u64 (a.a.toNat : Int), .int .u64 (a.b.toNat : Int)] 38)).alloc (.cells #[.int .u64 (ch.a.toNat : Int), .int .u64 (ch.b.toNat : Int)] 38)).keep hb1
      have ha1 := ((Blk.new_ (w := w.alloc (.cells #[.int .i64 N, .slice A gs.length c] 24)) (g := w.heap.size + 1) (t := 38) (cs := #[.int .u64 (a.a.toNat : Int), .int .u64 (a.b.toNat : Int)]) (by simp)).alloc (.cells #[.int .u64 (ch.a.toNat : Int), .int .u64 (ch.b.toNat : Int)] 38)).keep hb1
      have hh1 := (Blk.new_ (w := (w.alloc (.cells #[.int .i64 N, .slice A gs.length c] 24)).alloc (.cells #[.int .u64 (a.a.toNat : Int), .int .u64 (a.b.toNat : Int)] 38)) (g := w.heap.size + 1 + 1) (t := 38) (cs := #[.int .u64 (ch.a.toNat : Int), .int .u64 (ch.b.toNat : Int)]) (by simp)).keep hb1
      have hb1' : Below w.heap.size w w1 := Below.trans (by go_grown) (hb1.mono (by simp <;> omega))
      have c0 := hc1.cell 0
      have c1 := hc1.cell 1
      simp at c0 c1
      have lt1 := hc1.lt
      have HC1 := Lib.hid hc1
      have HA1 := Lib.hid ha1
      have HH1 := Lib.hid hh1
      clear hb1 hc1 ha1 hh1
      go_wp2_with fail
      refine (K2.out _ hb1').mono ?_
      rintro e w2 ⟨⟨LV, GV, rfl, hLV, hGV⟩, hb2⟩
      obtain ⟨A2, c2, rfl, hl2, hm2, _⟩ := id hLV
      unfold maxLen at hm2
      have hc2 := HC1.out.keep hb2
      have ha2 := HA1.out.keep hb2
      have hh2 := HH1.out.keep hb2
      have hb2' : Below w.heap.size w w2 := hb1'.trans (hb2.mono hb1'.size)
      have c0 := hc2.cell 0
      have c1 := hc2.cell 1
      have d0 := ha2.cell 0
      have d1 := ha2.cell 1
      simp at c0 c1 d0 d1
      have lt2 := hc2.lt
      have lt2' := ha2.lt
      have lt2'' := hh2.lt
      have HC2 := Lib.hid hc2
      have HA2 := Lib.hid ha2
      have HH2 := Lib.hid hh2
      have HL2 := Lib.hid hLV
      clear hb2 hb1' hc2 ha2 hh2 HC1 HA1 HH1 lt1 hLV hGV
      go_wp2_with fail
      refine (K3.out _ (by first | exact hb2' | (have lt9 := hb2'.size; exact hb2'.trans (by go_grown)))).mono ?_
      rintro e w3 ⟨rfl, hb3⟩
      have lt9 := hb2'.size
      have hb3' : Below w.heap.size w w3 := Below.trans (hb2'.trans (by go_grown)) (hb3.mono (by simp <;> omega))
      have ht3 := (Blk.new w2 29 #[.int .i64 rn, .slice A2 (([] : List (List Int)).length) c2]).keep hb3
      have t0 := ht3.cell 0
      have t1 := ht3.cell 1
      simp at t0 t1
      have lt10 := hb3'.size
      have lt11 := ht3.lt
      go_wp2_with fail
      refine (HW.out _).mono ?_
      rintro e w4 ⟨rfl, hb4⟩
      go_wp2
      go_ret
      exact ⟨rfl, hb3'.trans (Below.trans (by go_grown) (hb4.mono (by simp <;> omega)))⟩
end Go.Proofs.Ytlifakbdgmdafaa
