/-
  Slices of sets ([]api.Set): as the walk reads them, and as a call's own that it appends to. The reference's Subsets (censusref03). The reference's Assign (censusref05).
-/
import Derived.Test.YtlifakbdgmdafaaOwn2
import Derived.Test.YtlifakbdgmdafaaWSets5
import Derived.Test.YtlifakbdgmdafaaModels
import Derived.Test.YtlifakbdgmdafaaWSets3
namespace Go.Proofs.Ytlifakbdgmdafaa
open Go Go.RowKit

def SetAt (w : World) (a : Addr) (s : VS) : Prop := w.cell? a = some (.int .u64 (s.a.toNat : Int)) ∧ w.cell? ⟨a.block, a.off + 1, none⟩ = some (.int .u64 (s.b.toNat : Int))
def SetsV (w : World) (B : Nat) := SliceV 2 SetAt w B
theorem SetAt.stays (B : Nat) : Stays B SetAt := fun _ _ _ _ hb hB ⟨h1, h2⟩ => ⟨(hb.cell hB).trans h1, (hb.cell (by exact hB)).trans h2⟩
theorem SetsV.below {w w' : World} {B : Nat} {v : Value} {xs : List VS} (h : SetsV w B v xs) (hb : Below B w w') : SetsV w' B v xs := SliceV.below (SetAt.stays B) h hb
theorem SetsV.at_ {w w' : World} {B : Nat} {A : Option Addr} {n c k : Nat} {xs : List VS} (h : SetsV w B (.slice A n c) xs) (hb : Below B w w') (hk : k < xs.length) :
    ∃ b o, A = some ⟨b, o, none⟩ ∧ b < B ∧ w'.cell? ⟨b, o + k * 2, none⟩ = some (.int .u64 (xs[k].a.toNat : Int)) ∧ w'.cell? ⟨b, o + k * 2 + 1, none⟩ = some (.int .u64 (xs[k].b.toNat : Int)) := by
  obtain ⟨A', c', hv, _, _, h3⟩ := h
  injection hv with hA _ _
  subst hA
  obtain ⟨b, o, hB, rfl, hc⟩ := h3 (by omega)
  obtain ⟨h1, h2⟩ := hc k _ (List.getElem?_eq_getElem hk)
  exact ⟨b, o, rfl, hB, (hb.cell (by exact hB)).trans h1, (hb.cell (by exact hB)).trans h2⟩

def setCells : List VS → List Value
  | [] => []
  | s :: r => .int .u64 (s.a.toNat : Int) :: .int .u64 (s.b.toNat : Int) :: setCells r
theorem setCells_append (l m : List VS) : setCells (l ++ m) = setCells l ++ setCells m := by
  induction l with
  | nil => rfl
  | cons s r ih => simp [setCells, ih]
theorem setCells_len (l : List VS) : (setCells l).length = l.length * 2 := by
  induction l with
  | nil => rfl
  | cons s r ih => simp [setCells, ih]; omega
theorem setCells_get : ∀ (l : List VS) (i : Nat) (s : VS), l[i]? = some s → (setCells l)[i * 2]? = some (.int .u64 (s.a.toNat : Int)) ∧ (setCells l)[i * 2 + 1]? = some (.int .u64 (s.b.toNat : Int)) := by
  intro l
  induction l with
  | nil => intro i s h; simp at h
  | cons t r ih =>
    intro i s h
    cases i with
    | zero => simp at h; subst h; simp [setCells]
    | succ i =>
      have := ih i s (by simpa using h)
      rw [show (i + 1) * 2 = i * 2 + 1 + 1 from by omega]
      simpa [setCells] using this
def OwnSets (w : World) (base : Nat) (v : Value) (l : List VS) : Prop := w.ownsRow base 38 2 v l.length (setCells l)
theorem OwnSets.V {w : World} {base : Nat} {v : Value} {l : List VS} (h : OwnSets w base v l) : SetsV w w.heap.size v l := by
  obtain ⟨h1, h2⟩ := h
  rcases h2 with ⟨rfl, hn⟩ | ⟨g, cap, cur, rfl, _, hg, hnc, hcm, _, htake⟩
  · exact ⟨none, 0, by rw [hn], by omega, by unfold maxLen; omega, fun hp => by omega⟩
  · refine ⟨_, cap, rfl, hnc, hcm, fun _ => ⟨g, 0, (Array.getElem?_eq_some_iff.1 hg).1, rfl, fun i x hx => ?_⟩⟩
    have ht : cur.toList.take (l.length * 2) = setCells l := htake
    have hi : i < l.length := (List.getElem?_eq_some_iff.1 hx).1
    obtain ⟨g1, g2⟩ := setCells_get l i x hx
    rw [← ht, List.getElem?_take_of_lt (by omega)] at g1
    rw [← ht, List.getElem?_take_of_lt (by omega)] at g2
    constructor
    · rw [cell_of_row w g (0 + i * 2) cur _ (0, 0) hg]
      simpa using g1
    · show w.cell? ⟨g, 0 + i * 2 + 1, none⟩ = _
      rw [cell_of_row w g _ cur _ (0, 0) hg]
      simpa using g2
theorem OwnSets.below {w w' : World} {base : Nat} {v : Value} {l : List VS} (h : OwnSets w base v l) (hb : Below w.heap.size w w') : OwnSets w' base v l := own_below h hb
theorem OwnSets.nil (w : World) (base : Nat) : OwnSets w base (.slice none 0 0) [] := World.ownsRow_nil w base _ _
theorem OwnSets.form {w : World} {base : Nat} {v : Value} {l : List VS} (h : OwnSets w base v l) : ∃ A c, v = .slice A l.length c := by
  obtain ⟨A, c, e⟩ := own_form h
  exact ⟨A, c, e⟩
theorem OwnSets.cast {w : World} {base : Nat} {v : Value} {l : List VS} {s : VS} (h : w.ownsRow base 38 2 v (l.length + 1) (setCells l ++ [.int .u64 (s.a.toNat : Int), .int .u64 (s.b.toNat : Int)])) : OwnSets w base v (l ++ [s]) := by
  unfold OwnSets
  rw [List.length_append, setCells_append]
  exact h
theorem info_set' : (Try.prog.info? 38).map (fun i => (i.zero, i.size, i.bytes)) = some (some (.agg #[.int .u64 0, .int .u64 0]), 2, 16) := by kernel_rfl

/-- 'out = append(out, s)' on the call's own []Set. -/
theorem append_set (w0 : World) {ops : Array Oper} {rest : List Oper} {o : Oper} {a : Act} {Q : Exit → Act → World → Prop} (hgd : o.guard = none) (s x : Operand)
    (ho : o.op = .call { callee := .builtin .append, args := #[s, x], argTypes := #[46, 46] }) (base : Nat) (v : Value) (l : List VS) (y : VS) (hs : a.eval s = v) (hown : OwnSets w0 base v l)
    (hx : a.eval x = .slice (some ⟨w0.heap.size, 0, none⟩) 1 1) (hlen : l.length ≤ 1099511627776) (hbase : base ≤ w0.heap.size)
    (h : ∀ v' w', OwnSets w' base v' (l ++ [y]) → w0.grownBy w' v.ownBlock → wpList Try.prog ops Q rest (a.put o.dst v') w') :
    wpList Try.prog ops Q (o :: rest) a (w0.alloc (.cells #[.int .u64 (y.a.toNat : Int), .int .u64 (y.b.toNat : Int)] 38)) := by
  obtain ⟨i, hi, hz, hsz, hb⟩ := info_parts info_set'
  exact wpList_append_new w0 hgd s x 46 ho base 38 i _ 2 16 Try.underlying46 hi hz hsz hb rfl (by decide) v l.length _ hs hown [.int .u64 (y.a.toNat : Int), .int .u64 (y.b.toNat : Int)] hx rfl
    (by intro u hu; simp at hu; rcases hu with rfl | rfl <;> rfl) (by omega) (by unfold maxLen; omega) hbase
    (fun v' w' ho hg => h v' w' (OwnSets.cast ho) hg)

theorem setCells_at {w : World} {B : Nat} {b o : Nat} {m c : Nat} {l : List VS} (h : SetsV w B (.slice (some ⟨b, o, none⟩) m c) l) : ∀ j u, (setCells l)[j]? = some u → w.cell? ((⟨b, o, none⟩ : Addr).add j) = some u := by
  intro j u hu
  have hadd : (⟨b, o, none⟩ : Addr).add j = ⟨b, o + j, none⟩ := by unfold Addr.add; split <;> simp_all
  rw [hadd]
  have hj : j < l.length * 2 := by rw [← setCells_len]; exact (List.getElem?_eq_some_iff.1 hu).1
  have hk : j / 2 < l.length := by omega
  obtain ⟨b', o', e, _, h1, h2⟩ := h.at_ (Below.refl _ w) hk
  injection e with e
  injection e with e1 e2
  subst e1; subst e2
  obtain ⟨g1, g2⟩ := setCells_get l (j / 2) _ (List.getElem?_eq_getElem hk)
  rcases Nat.mod_two_eq_zero_or_one j with hm | hm
  · have e : j = j / 2 * 2 := by omega
    rw [← e] at g1
    rw [hu] at g1
    rw [show o + j = o + j / 2 * 2 from by omega, h1, g1]
  · have e : j = j / 2 * 2 + 1 := by omega
    rw [← e] at g2
    rw [hu] at g2
    rw [show o + j = o + j / 2 * 2 + 1 from by omega, h2, g2]
theorem setCells_one (l : List VS) : ∀ u ∈ setCells l, u.oneCell' = true := by
  induction l with
  | nil => intro u hu; simp [setCells] at hu
  | cons s r ih =>
    intro u hu
    simp only [setCells, List.mem_cons] at hu
    rcases hu with rfl | rfl | hu
    · rfl
    · rfl
    · exact ih u hu
/-- 'next = append(nil, l...)': a copy of the call's own. -/
theorem append_sets (w : World) {ops : Array Oper} {rest : List Oper} {o : Oper} {a : Act} {Q : Exit → Act → World → Prop} (hgd : o.guard = none) (s x : Operand)
    (ho : o.op = .call { callee := .builtin .append, args := #[s, x], argTypes := #[46, 46] }) (base : Nat) (l : List VS) (hs : a.eval s = .slice none 0 0)
    (B b oo c : Nat) (hl : SetsV w B (.slice (some ⟨b, oo, none⟩) l.length c) l) (hx : a.eval x = .slice (some ⟨b, oo, none⟩) l.length c) (hlen : l.length ≤ 1099511627776) (hbase : base ≤ w.heap.size)
    (h : ∀ v' w', OwnSets w' base v' l → w.grownBy w' none → wpList Try.prog ops Q rest (a.put o.dst v') w') :
    wpList Try.prog ops Q (o :: rest) a w := by
  obtain ⟨i, hi, hz, hsz, hb⟩ := info_parts info_set'
  refine wpList_append_own w hgd s x 46 ho base 38 i _ 2 16 Try.underlying46 hi hz hsz hb rfl (by decide) _ 0 [] hs (World.ownsRow_nil w base _ _) ⟨b, oo, none⟩ l.length c (setCells l) hx (setCells_len l) (setCells_at hl) (setCells_one l)
    (by unfold maxLen; omega) (by omega) hbase (fun v' w' ho hg _ => h v' w' ?_ hg)
  unfold OwnSets
  simpa using ho
end Go.Proofs.Ytlifakbdgmdafaa

namespace Go.Proofs.Ytlifakbdgmdafaa
open Go Go.RowKit

theorem sets_one (w : World) : SetsV (w.alloc (.cells #[.int .u64 0, .int .u64 0] 38)) (w.heap.size + 1) (.slice (some ⟨w.heap.size, 0, none⟩) 1 1) [VS.empty] := by
  refine ⟨_, 1, rfl, Nat.le_refl _, by unfold maxLen; omega, fun _ => ⟨w.heap.size, 0, by omega, rfl, fun i x hx => ?_⟩⟩
  cases i with
  | zero =>
    simp at hx
    subst hx
    have := Blk.new w 38 #[.int .u64 0, .int .u64 0]
    have c0 := this.cell 0
    have c1 := this.cell 1
    exact ⟨c0, c1⟩
  | succ i => simp at hx
theorem sets_form {w : World} {B : Nat} {v : Value} {l : List VS} (h : SetsV w B v l) (hl : 0 < l.length) : ∃ b o c, v = .slice (some ⟨b, o, none⟩) l.length c ∧ b < B ∧ l.length ≤ c ∧ c ≤ maxLen := by
  obtain ⟨A, c, rfl, h1, h2, h3⟩ := h
  obtain ⟨b, o, hb, rfl, _⟩ := h3 hl
  exact ⟨b, o, c, rfl, hb, h1, h2⟩

set_option maxRecDepth 100000 in
set_option maxHeartbeats 1600000 in
theorem ref03_subsets (n : Nat) (w : World) (hn : n ≤ 12) :
    Calls Try.prog 19 #[.int .i64 n] w fun e w' => (∃ v, e = .returned v ∧ SetsV w' w'.heap.size v (subsets n)) ∧ Below w.heap.size w w' := by
  obtain ⟨r, hr⟩ : ∃ r, r = subsets n := ⟨_, rfl⟩
  rw [← hr]
  have hr' : subs n [VS.empty] = r := hr.symm
  have hb0 : ([VS.empty] : List VS).length * 2 ^ n ≤ 4096 := by
    have : 2 ^ n ≤ 2 ^ 12 := Nat.pow_le_pow_right (by decide) hn
    simpa using this
  have HR := Lib.hid hr'
  have HB0 := Lib.hid hb0
  clear hr hr' hb0
  go_enter Try.func19, Try.ntmps19
  go_wp2
  go_loopw [3, 4] (fun lv vv wr => ∃ (v : Nat) (l : List VS), v ≤ n ∧ vv = .int .i64 v ∧ 0 < l.length ∧ Hid (l.length * 2 ^ v ≤ 4096) ∧ Hid (subs v l = r) ∧ SetsV wr wr.heap.size lv l ∧ Below w.heap.size w wr) (fun _ vv _ => (intOf vv).toNat)
  case atStart => exact ⟨n, [VS.empty], Nat.le_refl _, rfl, by simp, HB0, HR, by simpa using sets_one w, by go_grown⟩
  case round =>
    obtain ⟨v, l, hv, rfl, hl0, HLB, HS, hlv, hb⟩ := hrel
    obtain ⟨b, o, c, rfl, hbl, hlc, hcm⟩ := sets_form hlv hl0
    have hle : l.length ≤ 4096 := Nat.le_trans (Nat.le_mul_of_pos_right _ (Nat.pow_pos (by decide))) HLB.out
    unfold maxLen at hcm
    cases v with
    | zero =>
      have hs := HS.out
      rw [subs] at hs
      subst hs
      go_wp2
      go_ret
      exact ⟨⟨_, rfl, hlv⟩, hb⟩
    | succ v =>
      have hq : ((v + 1 : Nat) : Int) - 1 = (v : Int) := by omega
      have hvn : (((v + 1 : Nat) : Int)) = (v : Int) + 1 := by omega
      go_wp2_with (first | (at_builtin; refine append_sets wr rfl (.tmp 14) (.tmp 15) rfl wr.heap.size l rfl wr.heap.size b o c hlv rfl (by omega) (Nat.le_refl _) ?_; intro v0 w1 hown hgrow))
      have hb1 : Below wr.heap.size wr w1 := below_of_grown hgrow (Nat.le_refl _) (fun k hk => by cases hk)
      go_wp2
      obtain ⟨wo, rfl⟩ : ∃ wo : World, wo = wr := ⟨_, rfl⟩
      go_loopw [5, 6] (fun nv iv wi => ∃ i : Nat, i ≤ l.length ∧ iv = .int .i64 i ∧ OwnSets wi wo.heap.size nv (l ++ (l.take i).map fun s => s.with_ ((v : Int) + 1)) ∧ Below wo.heap.size wo wi) (fun _ iv _ => l.length - (intOf iv).toNat)
      case atStart => exact ⟨0, by omega, rfl, by simpa using hown, hb1⟩
      case round =>
        obtain ⟨i, hi, rfl, hnv, hbi⟩ := hrel
        by_cases hlt : i < l.length
        · obtain ⟨b', o', e, hb', c0, c1⟩ := hlv.at_ hbi hlt
          injection e with e
          injection e with e1 e2
          subst e1; subst e2
          have htk := List.take_succ_eq_append_getElem hlt
          have KW := Lib.hid (fun W => ref03_with l[i].a l[i].b ((v : Int) + 1) W)
          rw [VS.eta] at KW
          have hbl2 : b < wr.heap.size := by have := hbi.size; omega
          generalize l[i] = s at c0 c1 htk KW
          have HTK := Lib.hid htk
          clear htk
          have hlen : (l ++ (l.take i).map fun s => s.with_ ((v : Int) + 1)).length ≤ 1099511627776 := by simp; omega
          obtain ⟨m, hm⟩ : ∃ m, m = l ++ (l.take i).map fun s => s.with_ ((v : Int) + 1) := ⟨_, rfl⟩
          rw [← hm] at hnv hlen
          have HM := Lib.hid hm
          clear hm
          go_wp2_with fail
          refine (KW.out _).mono ?_
          rintro e w2 ⟨rfl, hb2⟩
          obtain ⟨t, ht⟩ : ∃ t, t = s.with_ ((v : Int) + 1) := ⟨_, rfl⟩
          rw [← ht]
          have HT := Lib.hid ht
          clear ht
          go_wp2_with (first | (at_builtin; refine append_set w2 rfl (.tmp 23) (.tmp 30) rfl _ _ _ t rfl (hnv.below hb2) rfl hlen (Nat.le_trans hbi.size hb2.size) ?_; intro v' w3 hown' hgrow'))
          have hge := fun (g : Nat) hg => (own_ge (g := g) hnv hg).1
          have hb3 := (hbi.trans (hb2.mono hbi.size)).trans (below_of_grown hgrow' (Nat.le_trans hbi.size hb2.size) hge)
          go_wp2
          go_roundw
          case rel =>
            refine ⟨i + 1, by omega, by go_num, ?_, hb3⟩
            rw [HTK.out, List.map_append, ← List.append_assoc, ← HM.out]
            rw [HT.out] at hown'
            exact hown'
          case measure => simp [intOf] <;> omega
        · have e : i = l.length := by omega
          subst e
          rw [List.take_length] at hnv
          have hS := HS.out
          rw [subs] at hS
          have hl2 : (l ++ l.map fun s => s.with_ ((v : Int) + 1)).length = l.length + l.length := by simp
          have hp : (l.length + l.length) * 2 ^ v ≤ 4096 := by
            have := HLB.out
            rw [Nat.pow_succ] at this
            rw [Nat.add_mul]
            rw [← Nat.mul_assoc] at this
            omega
          have HP := Lib.hid hp
          have HS2 := Lib.hid hS
          clear hp hS
          generalize (l ++ l.map fun s => s.with_ ((v : Int) + 1)) = m at hnv hl2 HS2
          go_wp2
          go_roundw
          case rel => exact ⟨v, m, by omega, by go_num, by omega, by show _ ≤ _; rw [hl2]; exact HP.out, HS2, hnv.V, hb.trans (hbi.mono hb.size)⟩
          case measure => simp [intOf] <;> omega
end Go.Proofs.Ytlifakbdgmdafaa

namespace Go.Proofs.Ytlifakbdgmdafaa
open Go Go.RowKit

theorem add_bv (a b : BitVec 64) : IntKind.u64.wrap ((a.toNat : Int) + (b.toNat : Int)) = ((a + b).toNat : Int) := by
  rw [BitVec.toNat_add, IntKind.wrap_u64]
  omega
theorem add_bit (A : BitVec 64) (v : Nat) (hv : v < 64) (h : A.getLsbD v = false) : IntKind.u64.wrap ((A.toNat : Int) + IntKind.u64.wrap (2 ^ v)) = ((A ||| 1#64 <<< v).toNat : Int) := by
  rw [pow_bv v hv, add_bv]
  congr 2
  apply BitVec.add_eq_or_of_and_eq_zero
  apply BitVec.eq_of_getLsbD_eq
  intro i hi
  rw [BitVec.getLsbD_and, BitVec.getLsbD_shiftLeft]
  by_cases e : i = v
  · subst e; simp [h]
  · simp [hi]
    intro h1 h2
    omega
theorem or_low (A : BitVec 64) (v j : Nat) (hj : j < v) (h : A.getLsbD j = false) : (A ||| 1#64 <<< v).getLsbD j = false := by
  rw [BitVec.getLsbD_or, BitVec.getLsbD_shiftLeft, h]
  simp [hj]
theorem with_low (A : BitVec 64) (v : Nat) (hv : v < 64) : VS.with_ ⟨A, 0#64⟩ ((v : Int) + 1) = ⟨A ||| 1#64 <<< v, 0#64⟩ := by
  have := with_lo ⟨A, 0#64⟩ (v + 1) (by omega) (by omega)
  simpa using this

set_option maxRecDepth 100000 in
set_option maxHeartbeats 1600000 in
theorem ref05_assign (k n : Nat) (w : World) (hk : k < 4096) (hn : n ≤ 12) :
    Calls Try.prog 48 #[.int .i64 k, .int .i64 n] w fun e w' => e = .returned (.agg #[.int .u64 ((assignOf k n).a.toNat : Int), .int .u64 ((assignOf k n).b.toNat : Int)]) ∧ Below w.heap.size w w' := by
  obtain ⟨r, hr⟩ : ∃ r, r = assignOf k n := ⟨_, rfl⟩
  rw [← hr]
  have hr' : assignGo k n VS.empty = r := hr.symm
  have HR := Lib.hid hr'
  clear hr hr'
  go_enter Try.func48, Try.ntmps48
  go_wp2
  go_loopw [0, 6] (fun kk vv wr => ∃ (m v : Nat) (A : BitVec 64), m < 4096 ∧ v ≤ n ∧ kk = .int .i64 m ∧ vv = .int .i64 v ∧ Hid (assignGo m v ⟨A, 0#64⟩ = r) ∧ Hid (∀ j, j < v → A.getLsbD j = false) ∧
      Blk wr w.heap.size 38 #[.int .u64 0, .int .u64 0] ∧ Blk wr (w.heap.size + 1) 38 #[.int .u64 (A.toNat : Int), .int .u64 0] ∧ Below w.heap.size w wr) (fun _ vv _ => (intOf vv).toNat)
  case atStart =>
    exact ⟨k, n, 0#64, hk, Nat.le_refl _, rfl, rfl, HR, Lib.hid (fun j _ => by simp), (Blk.new _ _ _).alloc _, Blk.new_ (cs := #[.int .u64 0, .int .u64 0]) (by simp), by go_grown⟩
  case round =>
    obtain ⟨m, v, A, hm, hv, rfl, rfl, HA, HB, hb0, hb1, hb⟩ := hrel
    have c0 := hb1.cell 0
    have c1 := hb1.cell 1
    have d0 := hb0.cell 0
    have d1 := hb0.cell 1
    have f0 := hb1.free 0
    have f1 := hb1.free 1
    have e0 := hb0.free 0
    have e1 := hb0.free 1
    simp at c0 c1 d0 d1
    have lt1 := hb1.lt
    have lt0 := hb0.lt
    cases v with
    | zero =>
      have HA' := HA.out
      rw [assignGo] at HA'
      subst HA'
      go_wp2
      refine bodyPost_ret (v := (.agg #[.int .u64 (((⟨A, 0#64⟩ : VS)).a.toNat : Int), .int .u64 (((⟨A, 0#64⟩ : VS)).b.toNat : Int)])) (by simp [results, Try.results48, go_sem, d0, d1]) rfl ?_
      exact ⟨rfl, (hb.setCell (by simp) _).setCell (by simp) _⟩
    | succ v =>
      have hq : ((v + 1 : Nat) : Int) - 1 = (v : Int) := by omega
      have h0 : (v : Int) / 64 = 0 := by omega
      have h1 : (v : Int) % 64 = (v : Int) := by omega
      have hA := HA.out
      rw [assignGo] at hA
      by_cases hk2 : m % 2 = 1
      · have h2 : (m : Int) % 2 = 1 := by omega
        rw [if_pos hk2, with_low A v (by omega)] at hA
        have HA2 := Lib.hid hA
        clear hA
        have hadd := add_bit A v (by omega) (HB.out v (by omega))
        have HADD := Lib.hid hadd
        clear hadd
        have HLOW := Lib.hid (fun j (hj : j < v) => or_low A v j hj (HB.out j (by omega)))
        clear hk2
        go_wp2
        go_roundw
        case rel =>
          refine ⟨m / 2, v, A ||| 1#64 <<< v, by omega, by omega, by go_num, by go_num, HA2, HLOW, hb0.far (by simp) _, ?_, hb.setCell (by simp) _⟩
          have := hb1.put 0 (.int .u64 (((A ||| 1#64 <<< v).toNat : Nat) : Int))
          rw [← HADD.out] at this
          rw [← HADD.out]
          simpa using this
        case measure => simp [intOf] <;> omega
      · have h2 : (m : Int) % 2 = 0 := by omega
        rw [if_neg hk2] at hA
        have HA2 := Lib.hid hA
        clear hA hk2
        go_wp2
        go_roundw
        case rel => exact ⟨m / 2, v, A, by omega, by omega, by go_num, by go_num, HA2, Lib.hid (fun j hj => HB.out j (by omega)), hb0, hb1, hb⟩
        case measure => simp [intOf] <;> omega
end Go.Proofs.Ytlifakbdgmdafaa
