/-
  The reference's Check of theories (censusref05). The reference's Has, Holds, Assignment and Eval of theories (censusref05). The reference's Eval of theories (censusref05).
-/
import Derived.Test.YtlifakbdgmdafaaWTheory
import Derived.Test.YtlifakbdgmdafaaWSame
import Derived.Test.YtlifakbdgmdafaaWRef07
namespace Go.Proofs.Ytlifakbdgmdafaa
open Go Go.RowKit

theorem ref05_valid (l n : Int) (w : World) (h0 : 0 ≤ n) (h : n ≤ 128) :
    Calls Try.prog 70 #[(.int .i64 (l)), (.int .i64 (n))] w fun e w' => e = .returned (.bool (litOk l n)) ∧ w = w' := by
  obtain ⟨r, hr⟩ : ∃ r, r = litOk l n := ⟨_, rfl⟩
  have hi := litOk_iff l n h0 h
  rw [← hr] at hi ⊢
  clear hr
  have HI := Lib.hid hi
  clear hi
  by_cases hl : l = 0
  · subst hl
    have e : r = false := by
      cases r with
      | false => rfl
      | true => have := HI.out.1 rfl; omega
    subst e
    go_enter Try.func70, Try.ntmps70
    go_wp2
    go_ret
    exact ⟨rfl, rfl⟩
  · have hl' : (l != 0) = true := by simp [hl]
    by_cases h1 : -n ≤ l
    · by_cases h2 : l ≤ n
      · have e : r = true := HI.out.2 (by omega)
        subst e
        clear hl
        go_enter Try.func70, Try.ntmps70
        go_wp2
        go_ret
        exact ⟨rfl, rfl⟩
      · have e : r = false := by
          cases r with
          | false => rfl
          | true => have := HI.out.1 rfl; omega
        subst e
        clear hl
        go_enter Try.func70, Try.ntmps70
        go_wp2
        go_ret
        exact ⟨rfl, rfl⟩
    · have e : r = false := by
        cases r with
        | false => rfl
        | true => have := HI.out.1 rfl; omega
      subst e
      clear hl
      go_enter Try.func70, Try.ntmps70
      go_wp2
      go_ret
      exact ⟨rfl, rfl⟩

set_option maxRecDepth 100000 in
set_option maxHeartbeats 3200000 in
theorem ref05_check (N : Int) (V : Value) (L : List (List Int)) (w : World) (B : Nat) (hB : B ≤ w.heap.size) (hL : RowsV w B V L) :
    Calls Try.prog 47 #[.agg #[.int .i64 N, V]] w fun e w' => e = .returned (.int .i64 (thCheck N L)) ∧ Below w.heap.size w w' := by
  obtain ⟨A, c, rfl, hlc, hcm, _⟩ := id hL
  unfold maxLen at hcm
  obtain ⟨r, hr⟩ : ∃ r, r = thCheck N L := ⟨_, rfl⟩
  rw [← hr]
  by_cases hN : N < 0 ∨ 128 < N
  · have e : r = 6 := by rw [hr]; unfold thCheck; rw [if_pos hN]
    subst e
    clear hr
    rcases hN with hN | hN
    all_goals
      go_enter Try.func47, Try.ntmps47
      go_wp2
      go_ret
      exact ⟨rfl, by go_grown⟩
  · have hN0 : 0 ≤ N := by omega
    have hN1 : N ≤ 128 := by omega
    by_cases hlen : 4096 < L.length
    · have e : r = 2 := by rw [hr]; unfold thCheck; rw [if_neg hN, if_pos hlen]
      subst e
      clear hr hN
      go_enter Try.func47, Try.ntmps47
      go_wp2
      go_ret
      exact ⟨rfl, by go_grown⟩
    · have HR := Lib.hid (show r = rowsCheck N L by rw [hr]; unfold thCheck; rw [if_neg hN, if_neg hlen])
      clear hr hN
      go_enter Try.func47, Try.ntmps47
      go_wp2
      go_loopw [3] (fun i wr => ∃ k : Nat, k ≤ L.length ∧ i = .int .i64 k ∧ (∀ i c, i < k → L[i]? = some c → rowCheck N c = 0) ∧ Blk wr w.heap.size 29 #[.int .i64 N, .slice A L.length c] ∧ Below w.heap.size w wr) (fun i _ => L.length - (intOf i).toNat)
      case atStart => exact ⟨0, Nat.zero_le _, rfl, fun i c hi => by omega, Blk.new _ _ _, by go_grown⟩
      case round =>
        obtain ⟨k, hk, rfl, hall, hblk, hb⟩ := hrel
        have HALL := Lib.hid hall
        clear hall
        have c0 := hblk.cell 0
        have c1 := hblk.cell 1
        simp at c0 c1
        have lt0 := hblk.lt
        by_cases hlt : k < L.length
        · obtain ⟨b, o, A', c', rfl, hbB, h0, hI, hnc, hcm'⟩ := hL.at_ (hb.mono hB) hlt
          have hbl : b < wr.heap.size := by have := hb.size; omega
          have step : rowCheck N L[k] = 0 → ∀ i c, i < k + 1 → L[i]? = some c → rowCheck N c = 0 := fun h i c hi hc => by
            by_cases e : i = k
            · subst e; rw [List.getElem?_eq_getElem hlt] at hc; injection hc with hc; rw [← hc]; exact h
            · exact HALL.out i c (by omega) hc
          have stop : rowCheck N L[k] ≠ 0 → r = rowCheck N L[k] := fun h => by rw [HR.out]; exact rowsCheck_at N L k hlt HALL.out h
          generalize L[k] = row at h0 hI hnc step stop
          have hz : row.length ≤ 9223372036854775807 := by unfold maxLen at hcm'; omega
          have STEP := Lib.hid step
          have STOP := Lib.hid stop
          clear step stop
          by_cases hlong : 128 < row.length
          · have e0 : rowCheck N row = 2 := by unfold rowCheck; rw [if_pos hlong]
            have e : r = 2 := by rw [STOP.out (by omega)]; exact e0
            subst e
            clear e0
            go_wp2
            go_ret
            exact ⟨rfl, hb⟩
          · have hrow : rowCheck N row = if row.all (fun l => litOk l N) then 0 else 1 := by unfold rowCheck; rw [if_neg hlong]
            have HROW := Lib.hid hrow
            clear hrow
            go_wp2
            obtain ⟨wo, rfl⟩ : ∃ wo : World, wo = wr := ⟨_, rfl⟩
            go_loopw [4] (fun j wr => ∃ n : Nat, n ≤ row.length ∧ j = .int .i64 n ∧ (row.take n).all (fun l => litOk l N) = true ∧ Below wo.heap.size wo wr) (fun j _ => row.length - (intOf j).toNat)
            case atStart => exact ⟨0, Nat.zero_le _, rfl, rfl, Below.refl _ _⟩
            case round =>
              obtain ⟨n, hn, rfl, hall, hb2⟩ := hrel
              have HA := Lib.hid hall
              have hblk2 := hblk.keep hb2
              have hb3 := hb.trans (hb2.mono hb.size)
              have c0 := hblk2.cell 0
              have c1 := hblk2.cell 1
              simp at c0 c1
              have lt0 := hblk2.lt
              have hbl2 : b < wr.heap.size := by have := hb2.size; omega
              have h0' := (hb2.cell (p := ⟨b, o + k, none⟩) hbl).trans h0
              clear hall
              by_cases hlt2 : n < row.length
              · obtain ⟨b', o', rfl, hbB', hcell⟩ := hI.at_ (hb2.mono (Nat.le_trans hB hb.size)) hlt2
                have hbl' : b' < wr.heap.size := by have := hb3.size; omega
                have kv := fun w => ref05_valid row[n] N w hN0 hN1
                have hs1 : (row.take (n + 1)).all (fun l => litOk l N) = ((row.take n).all (fun l => litOk l N) && litOk row[n] N) := by
                  rw [List.take_succ_eq_append_getElem hlt2, List.all_append]; simp
                have hs2 : litOk row[n] N = false → row.all (fun l => litOk l N) = false := fun h => by
                  rw [List.all_eq_false]; exact ⟨_, List.getElem_mem hlt2, by simp [h]⟩
                generalize row[n] = x at hcell kv hs1 hs2
                generalize litOk x N = y at kv hs1 hs2
                have KV := Lib.hid kv
                have HS1 := Lib.hid hs1
                have HS2 := Lib.hid hs2
                clear kv hs1 hs2
                cases y
                · have e0 : rowCheck N row = 1 := by rw [HROW.out, HS2.out rfl]; rfl
                  have e : r = 1 := by rw [STOP.out (by omega)]; exact e0
                  subst e
                  clear e0
                  go_wp2
                  go_quiet ((go_at_call 70; exact Calls.quiet_of_same ((KV.out _).mono fun _ _ h => ⟨h.1, h.2.symm⟩)))
                  go_wp2
                  go_ret
                  exact ⟨rfl, below_drewN hb3 _⟩
                · go_wp2
                  go_quiet ((go_at_call 70; exact Calls.quiet_of_same ((KV.out _).mono fun _ _ h => ⟨h.1, h.2.symm⟩)))
                  go_wp2
                  go_roundw
                  case rel => exact ⟨n + 1, by omega, by go_num, by rw [HS1.out, HA.out]; rfl, below_drewN hb2 _⟩
                  case measure => simp [intOf]; omega
              · have e : n = row.length := by omega
                subst e
                rw [List.take_length] at HA
                go_wp2
                go_roundw
                case rel => exact ⟨k + 1, by omega, by go_num, STEP.out (by rw [HROW.out, HA.out]; rfl), hblk2, hb3⟩
                case measure => simp [intOf]; omega
        · have e : k = L.length := by omega
          subst e
          have e : r = 0 := by rw [HR.out]; exact rowsCheck_end N L HALL.out
          subst e
          go_wp2
          go_ret
          exact ⟨rfl, hb⟩
end Go.Proofs.Ytlifakbdgmdafaa

namespace Go.Proofs.Ytlifakbdgmdafaa
open Go Go.RowKit

set_option maxHeartbeats 400000 in
theorem ref05_has (a b : BitVec 64) (v : Int) (w : World) :
    Calls Try.prog 71 #[(.agg #[.int .u64 ((a).toNat : Int), .int .u64 ((b).toNat : Int)]), (.int .i64 (v))] w fun e w' => e = .returned (.bool (VS.has ⟨a, b⟩ v)) ∧ Below w.heap.size w w' := by
  by_cases h : v < 1 ∨ 128 < v
  · rw [VS.has_out _ h]
    rcases h with h | h
    · go_enter Try.func71, Try.ntmps71
      go_wp2
      go_ret
      exact ⟨rfl, (Below.refl _ _).alloc (Nat.le_refl _) _⟩
    · have h1 : 1 ≤ v := by omega
      go_enter Try.func71, Try.ntmps71
      go_wp2
      go_ret
      exact ⟨rfl, (Below.refl _ _).alloc (Nat.le_refl _) _⟩
  · by_cases h2 : v ≤ 64
    · have h1 : 1 ≤ v := by omega
      have h3 : v ≤ 128 := by omega
      rw [has_lo _ v h1 h2]
      clear h
      have hq : (v-1)/64 = 0 := by omega
      have hr : (v-1)%64 = v-1 := by omega
      go_enter Try.func71, Try.ntmps71
      go_wp2
      go_ret
      exact ⟨ret_bool (shr_bv a _), (Below.refl _ _).alloc (Nat.le_refl _) _⟩
    · have h1 : 65 ≤ v := by omega
      have h3 : v ≤ 128 := by omega
      have h4 : 1 ≤ v := by omega
      rw [has_hi _ v h1 h3]
      clear h h2
      have hq : (v-1)/64 = 1 := by omega
      have hr : (v-1)%64 = v-65 := by omega
      go_enter Try.func71, Try.ntmps71
      go_wp2
      go_ret
      exact ⟨ret_bool (by rw [← shr_bv b, ← show (v - 65).toNat = v.toNat - 65 from by omega]), (Below.refl _ _).alloc (Nat.le_refl _) _⟩

theorem ref05_holds (s : VS) (l : Int) (w : World) (h0 : -9223372036854775807 ≤ l) (h1 : l ≤ 9223372036854775807) :
    Calls Try.prog 50 #[(.agg #[.int .u64 ((s).a.toNat : Int), .int .u64 ((s).b.toNat : Int)]), (.int .i64 (l))] w fun e w' => e = .returned (.bool (refHolds s l)) ∧ Below w.heap.size w w' := by
  unfold refHolds
  by_cases hl : l < 0
  · rw [if_pos hl]
    have k : ∀ W, Calls Try.prog 71 #[(.agg #[.int .u64 ((s).a.toNat : Int), .int .u64 ((s).b.toNat : Int)]), (.int .i64 (-l))] W fun e w' => e = .returned (.bool (s.has (-l))) ∧ Below W.heap.size W w' := fun W => ref05_has s.a s.b (-l) W
    generalize VS.has s (-l) = y at k ⊢
    have K := Lib.hid k
    clear k
    go_enter Try.func50, Try.ntmps50
    go_wp2_with fail
    refine (K.out _).mono ?_
    rintro e w1 ⟨rfl, hb⟩
    go_wp2
    go_ret
    exact ⟨rfl, Below.trans (by go_grown) (hb.mono (by simp))⟩
  · rw [if_neg hl]
    have k : ∀ W, Calls Try.prog 71 #[(.agg #[.int .u64 ((s).a.toNat : Int), .int .u64 ((s).b.toNat : Int)]), (.int .i64 (l))] W fun e w' => e = .returned (.bool (s.has l)) ∧ Below W.heap.size W w' := fun W => ref05_has s.a s.b l W
    generalize VS.has s l = y at k ⊢
    have K := Lib.hid k
    clear k
    have hl' : 0 ≤ l := by omega
    clear hl
    go_enter Try.func50, Try.ntmps50
    go_wp2_with fail
    refine (K.out _).mono ?_
    rintro e w1 ⟨rfl, hb⟩
    go_wp2
    go_ret
    exact ⟨rfl, Below.trans (by go_grown) (hb.mono (by simp))⟩

/-- From a variable on, none. -/
def noneFrom (s : VS) (v : Int) : Nat → Bool
  | 0 => true
  | n + 1 => !s.has v && noneFrom s (v + 1) n
theorem noneFrom_iff (s : VS) (n : Nat) : ∀ v, noneFrom s v n = true ↔ ∀ u, v ≤ u → u < v + n → s.has u = false := by
  induction n with
  | zero => intro v; simp [noneFrom]; intro u h1 h2; omega
  | succ n ih =>
    intro v
    rw [noneFrom, Bool.and_eq_true, ih]
    constructor
    · intro ⟨h1, h2⟩ u h3 h4
      by_cases e : u = v
      · subst e; simpa using h1
      · exact h2 u (by omega) (by omega)
    · intro h
      exact ⟨by rw [h v (by omega) (by omega)]; rfl, fun u h1 h2 => h u (by omega) (by omega)⟩
theorem noneFrom_sub {s : VS} {n : Int} (h0 : 0 ≤ n) (h1 : n ≤ 128) : noneFrom s (n + 1) (128 - n).toNat = s.sub (VS.all n) := by
  rw [Bool.eq_iff_iff, noneFrom_iff, VS.sub_iff]
  constructor
  · intro h v h2 h3 hs
    rw [VS.has_all]
    simp only [Bool.and_eq_true, decide_eq_true_eq]
    refine ⟨⟨h2, h3⟩, ?_⟩
    apply Classical.byContradiction
    intro hv
    rw [h v (by omega) (by omega)] at hs
    cases hs
  · intro h u h2 h3
    cases hs : s.has u with
    | false => rfl
    | true =>
      have := h u (by omega) (by omega) hs
      rw [VS.has_all] at this
      simp at this
      omega

set_option maxHeartbeats 1600000 in
theorem ref05_assignment (s : VS) (n : Int) (w : World) (h0 : 0 ≤ n) (h1 : n ≤ 128) :
    Calls Try.prog 49 #[(.agg #[.int .u64 ((s).a.toNat : Int), .int .u64 ((s).b.toNat : Int)]), (.int .i64 (n))] w fun e w' => e = .returned (.bool (s.sub (VS.all n))) ∧ Below w.heap.size w w' := by
  obtain ⟨r, hr⟩ : ∃ r, r = s.sub (VS.all n) := ⟨_, rfl⟩
  rw [← hr]
  rw [← noneFrom_sub h0 h1] at hr
  have HR := Lib.hid hr
  clear hr
  go_enter Try.func49, Try.ntmps49
  go_wp2
  go_loopw [5] (fun i wr => ∃ v : Int, n + 1 ≤ v ∧ v ≤ 129 ∧ i = .int .i64 v ∧ Hid (r = noneFrom s v (129 - v).toNat) ∧ Blk wr w.heap.size 38 #[.int .u64 (s.a.toNat : Int), .int .u64 (s.b.toNat : Int)] ∧ Below w.heap.size w wr) (fun i _ => (129 - intOf i).toNat)
  case atStart => exact ⟨n + 1, by omega, by omega, rfl, by show _ = _; rw [HR.out]; congr 1; omega, Blk.new _ _ _, by go_grown⟩
  case round =>
    obtain ⟨v, hv0, hv1, rfl, HN, hblk, hb⟩ := hrel
    have c0 := hblk.cell 0
    have c1 := hblk.cell 1
    simp at c0 c1
    have lt0 := hblk.lt
    by_cases hlt : v ≤ 128
    · have k : ∀ W, Calls Try.prog 71 #[(.agg #[.int .u64 ((s).a.toNat : Int), .int .u64 ((s).b.toNat : Int)]), (.int .i64 (v))] W fun e w' => e = .returned (.bool (s.has v)) ∧ Below W.heap.size W w' := fun W => ref05_has s.a s.b v W
      have hn := HN.out
      rw [show (129 - v).toNat = (129 - (v + 1)).toNat + 1 from by omega, noneFrom] at hn
      generalize VS.has s v = y at k hn
      have K := Lib.hid k
      clear k
      cases y
      · simp only [Bool.not_false, Bool.true_and] at hn
        have HN2 := Lib.hid hn
        clear hn
        go_wp2_with fail
        refine (K.out _).mono ?_
        rintro e w1 ⟨rfl, hb2⟩
        go_wp2
        go_roundw
        case rel => exact ⟨v + 1, by omega, by omega, rfl, HN2, hblk.keep hb2, hb.trans (hb2.mono hb.size)⟩
        case measure => simp [intOf]; omega
      · simp only [Bool.not_true, Bool.false_and] at hn
        subst hn
        clear HN
        go_wp2_with fail
        refine (K.out _).mono ?_
        rintro e w1 ⟨rfl, hb2⟩
        go_wp2
        go_ret
        exact ⟨rfl, hb.trans (hb2.mono hb.size)⟩
    · have hn := HN.out
      rw [show (129 - v).toNat = 0 from by omega, noneFrom] at hn
      subst hn
      clear HN
      go_wp2
      go_ret
      exact ⟨rfl, hb⟩
end Go.Proofs.Ytlifakbdgmdafaa

namespace Go.Proofs.Ytlifakbdgmdafaa
open Go Go.RowKit

theorem litOk_okL {l n : Int} (h0 : 0 ≤ n) (h1 : n ≤ 128) (h : litOk l n = true) : okL 128 l := okL.mono (m := n) ((litOk_iff l n h0 h1).1 h) h1
theorem any_take_succ (l : List Int) (k : Nat) (h : k < l.length) (p : Int → Bool) : (l.take (k + 1)).any p = ((l.take k).any p || p l[k]) := by
  rw [List.take_succ_eq_append_getElem h, List.any_append]; simp

set_option maxRecDepth 100000 in
set_option maxHeartbeats 3200000 in
theorem ref05_eval (N : Int) (V : Value) (L : List (List Int)) (s : VS) (w : World) (B : Nat) (hB : B ≤ w.heap.size) (hL : RowsV w B V L) :
    Calls Try.prog 24 #[.agg #[.int .i64 N, V], (.agg #[.int .u64 ((s).a.toNat : Int), .int .u64 ((s).b.toNat : Int)])] w fun e w' => e = .returned (.bool (thEval N L s)) ∧ Below w.heap.size w w' := by
  obtain ⟨A, c, rfl, hlc, hcm, _⟩ := id hL
  unfold maxLen at hcm
  obtain ⟨r, hr⟩ : ∃ r, r = thEval N L s := ⟨_, rfl⟩
  rw [← hr]
  have k1 : ∀ w1, Below w.heap.size w w1 → Calls Try.prog 47 #[.agg #[.int .i64 N, .slice A L.length c]] w1 fun e w' => e = .returned (.int .i64 (thCheck N L)) ∧ Below w1.heap.size w1 w' :=
    fun w1 hb => ref05_check N _ L w1 B (Nat.le_trans hB hb.size) (hL.below (hb.mono hB))
  have hcc := thCheck_cases N L
  obtain ⟨ck, hck⟩ : ∃ ck, ck = thCheck N L := ⟨_, rfl⟩
  have hck0 : ck = 0 → 0 ≤ N ∧ N ≤ 128 ∧ ∀ c ∈ L, ∀ l ∈ c, litOk l N = true := fun h => by
    rw [hck] at h
    have := (thCheck_zero N L).1 h
    exact ⟨this.1, this.2.1, fun c hc l hl => (this.2.2.2 c hc).2 l hl⟩
  rw [← hck] at k1 hcc
  have hr' : r = (decide (ck = 0) && s.sub (VS.all N) && L.all (rowTrue s)) := by rw [hr, hck]; rfl
  clear hr hck
  have HR := Lib.hid hr'
  have K1 := Lib.hid k1
  clear hr' k1
  by_cases h0 : ck = 0
  · subst h0
    obtain ⟨hN0, hN1, hlit⟩ := hck0 rfl
    clear hcc hck0
    have HLIT := Lib.hid hlit
    clear hlit
    have k2 : ∀ w1, Calls Try.prog 49 #[(.agg #[.int .u64 ((s).a.toNat : Int), .int .u64 ((s).b.toNat : Int)]), .int .i64 N] w1 fun e w' => e = .returned (.bool (s.sub (VS.all N))) ∧ Below w1.heap.size w1 w' := fun w1 => ref05_assignment s N w1 hN0 hN1
    generalize s.sub (VS.all N) = sb at k2 HR
    have K2 := Lib.hid k2
    clear k2
    go_enter Try.func24, Try.ntmps24
    go_wp2_with fail
    have blk0 : Blk ((w.alloc (.cells #[.int .i64 N, .slice A L.length c] 29)).alloc (.cells #[.int .u64 (s.a.toNat : Int), .int .u64 (s.b.toNat : Int)] 38)) w.heap.size 29 #[.int .i64 N, .slice A L.length c] := (Blk.new w _ _).alloc _
    have blk1 : Blk ((w.alloc (.cells #[.int .i64 N, .slice A L.length c] 29)).alloc (.cells #[.int .u64 (s.a.toNat : Int), .int .u64 (s.b.toNat : Int)] 38)) (w.heap.size + 1) 38 #[.int .u64 (s.a.toNat : Int), .int .u64 (s.b.toNat : Int)] := Blk.new_ (by simp)
    have hw : Below w.heap.size w ((w.alloc (.cells #[.int .i64 N, .slice A L.length c] 29)).alloc (.cells #[.int .u64 (s.a.toNat : Int), .int .u64 (s.b.toNat : Int)] 38)) := by go_grown
    generalize (w.alloc (.cells #[.int .i64 N, .slice A L.length c] 29)).alloc (.cells #[.int .u64 (s.a.toNat : Int), .int .u64 (s.b.toNat : Int)] 38) = w1 at *
    have B0 := Lib.hid blk0
    have B1 := Lib.hid blk1
    clear blk0 blk1
    refine (K1.out _ hw).mono ?_
    rintro e w2 ⟨rfl, hb2⟩
    have b0 := B0.out.keep hb2
    have b1 := B1.out.keep hb2
    have c0 := b0.cell 0
    have c1 := b0.cell 1
    have d0 := b1.cell 0
    have d1 := b1.cell 1
    simp at c0 c1 d0 d1
    have lt0 := b0.lt
    have lt1 := b1.lt
    have hw2 := hw.trans (hb2.mono hw.size)
    have B0 := Lib.hid b0
    have B1 := Lib.hid b1
    clear b0 b1 hb2
    go_wp2_with fail
    refine (K2.out _).mono ?_
    rintro e w3 ⟨rfl, hb3⟩
    have hw3 := hw2.trans (hb3.mono hw2.size)
    have b0 := B0.out.keep hb3
    have b1 := B1.out.keep hb3
    have c0 := b0.cell 0
    have c1 := b0.cell 1
    have d0 := b1.cell 0
    have d1 := b1.cell 1
    simp at c0 c1 d0 d1
    have lt0 := b0.lt
    have lt1 := b1.lt
    have B0 := Lib.hid b0
    have B1 := Lib.hid b1
    clear b0 b1 hb3 hw2 hw
    cases sb
    · go_wp2
      go_ret
      exact ⟨ret_bool (by rw [HR.out]; simp), hw3⟩
    · go_wp2
      go_loopw [5] (fun i wr => ∃ k : Nat, k ≤ L.length ∧ i = .int .i64 k ∧ (L.take k).all (rowTrue s) = true ∧ Below w3.heap.size w3 wr) (fun i _ => L.length - (intOf i).toNat)
      case atStart => exact ⟨0, by omega, rfl, rfl, Below.refl _ _⟩
      case round =>
        obtain ⟨k, hk, rfl, hall, hb⟩ := hrel
        have HALL := Lib.hid hall
        clear hall
        have b0 := B0.out.keep hb
        have b1 := B1.out.keep hb
        have c0 := b0.cell 0
        have c1 := b0.cell 1
        simp at c0 c1
        have l2 := b1.lt
        have l3 := b0.lt
        have B0' := Lib.hid b0
        have B1' := Lib.hid b1
        have hb4 := hw3.trans (hb.mono hw3.size)
        clear b0 b1
        by_cases hlt : k < L.length
        · obtain ⟨b, o, A', c', rfl, hbB, hcell, hI, hnc, hcm'⟩ := hL.at_ (hb4.mono hB) hlt
          have hbl : b < wr.heap.size := by have := hb4.size; omega
          have htk := Lib.hid (List.take_succ_eq_append_getElem hlt)
          have hno : rowTrue s L[k] = false → L.all (rowTrue s) = false := fun h => by
            rw [List.all_eq_false]; exact ⟨_, List.getElem_mem hlt, by simp [h]⟩
          have HNO := Lib.hid hno
          have hlits := HLIT.out L[k] (List.getElem_mem hlt)
          have HLITS := Lib.hid hlits
          clear hno hlits
          generalize L[k] = row at hcell hI hnc htk HNO HLITS
          unfold maxLen at hcm'
          have hz : row.length ≤ 9223372036854775807 := by omega
          go_wp2
          obtain ⟨wo, rfl⟩ : ∃ wo : World, wo = wr := ⟨_, rfl⟩
          go_loopw [6, 7] (fun q j wr => ∃ (n : Nat) (y : Bool), n ≤ row.length ∧ j = .int .i64 n ∧ q = .bool y ∧ Hid (y = (row.take n).any (litHolds s)) ∧ Below wo.heap.size wo wr) (fun _ j _ => row.length - (intOf j).toNat)
          case atStart => exact ⟨0, false, by omega, rfl, rfl, rfl, Below.refl _ _⟩
          case round =>
            obtain ⟨n, y, hn, rfl, rfl, HY, hbo⟩ := hrel
            have b0 := B0'.out.keep hbo
            have b1 := B1'.out.keep hbo
            have c0 := b0.cell 0
            have c1 := b0.cell 1
            have d0 := b1.cell 0
            have d1 := b1.cell 1
            simp at c0 c1 d0 d1
            have l2 := b1.lt
            have l3 := b0.lt
            have hbl2 : b < wr.heap.size := by have := hbo.size; omega
            have hcell2 := (hbo.cell (p := ⟨b, o + k, none⟩) hbl).trans hcell
            by_cases hlt2 : n < row.length
            · obtain ⟨b', o', rfl, hbB', hcell3⟩ := hI.at_ (hbo.mono (Nat.le_trans hB hb4.size)) hlt2
              have hbl3 : b' < wr.heap.size := by have := hb4.size; omega
              have hs1 := any_take_succ row n hlt2 (litHolds s)
              have hok := litOk_okL hN0 hN1 (HLITS.out row[n] (List.getElem_mem hlt2))
              generalize row[n] = x at hcell3 hs1 hok
              cases y
              · have kv : ∀ W, Calls Try.prog 50 #[(.agg #[.int .u64 ((s).a.toNat : Int), .int .u64 ((s).b.toNat : Int)]), (.int .i64 (x))] W fun e w' => e = .returned (.bool (litHolds s x)) ∧ Below W.heap.size W w' := fun W => by
                  rw [← refHolds_eq hok]
                  unfold okL at hok
                  exact ref05_holds s x W (by omega) (by omega)
                rw [← HY.out, Bool.false_or] at hs1
                generalize litHolds s x = y2 at kv hs1
                have KV := Lib.hid kv
                have HS1 := Lib.hid hs1
                clear kv hs1 hok
                have T1 := b0.later 1 _ rfl
                have D0 := b1.later 0 _ rfl
                have D1 := b1.later 1 _ rfl
                have R0 : ∀ W, Below wr.heap.size wr W → W.cell? ⟨b, o + k, none⟩ = some (.slice (some ⟨b', o', none⟩) row.length c') := fun W hW => (hW.cell (p := ⟨b, o + k, none⟩) hbl2).trans hcell2
                have X0 : ∀ W, Below wr.heap.size wr W → W.cell? ⟨b', o' + n, none⟩ = some (.int .i64 x) := fun W hW => (hW.cell (p := ⟨b', o' + n, none⟩) hbl3).trans hcell3
                have hbW : Below wr.heap.size wr wr.drew := (Below.refl _ _).drew
                have HT1 := Lib.hid T1
                have HD0 := Lib.hid D0
                have HD1 := Lib.hid D1
                have HR0 := Lib.hid R0
                have HX0 := Lib.hid X0
                clear T1 D0 D1 R0 X0 b0 b1
                go_wp2
                have sf : ∀ w', Below wr.heap.size wr w' → (w'.cell? ⟨w.heap.size, 1, none⟩ = some (.slice (some ⟨b, o, none⟩) L.length c) ∧ w'.cell? ⟨w.heap.size + 1, 0, none⟩ = some (.int .u64 (s.a.toNat : Int)) ∧ w'.cell? ⟨w.heap.size + 1, 1, none⟩ = some (.int .u64 (s.b.toNat : Int)) ∧ w'.cell? ⟨b, o + k, none⟩ = some (.slice (some ⟨b', o', none⟩) row.length c') ∧ w'.cell? ⟨b', o' + n, none⟩ = some (.int .i64 x) ∧ Below wr.heap.size wr w') := fun w' h => ⟨HT1.out _ h, HD0.out _ h, HD1.out _ h, HR0.out _ h, HX0.out _ h, h⟩
                have SF := Lib.hid sf
                clear sf
                go_region_held3 (fun w' => w'.cell? ⟨w.heap.size, 1, none⟩ = some (.slice (some ⟨b, o, none⟩) L.length c) ∧ w'.cell? ⟨w.heap.size + 1, 0, none⟩ = some (.int .u64 (s.a.toNat : Int)) ∧ w'.cell? ⟨w.heap.size + 1, 1, none⟩ = some (.int .u64 (s.b.toNat : Int)) ∧ w'.cell? ⟨b, o + k, none⟩ = some (.slice (some ⟨b', o', none⟩) row.length c') ∧ w'.cell? ⟨b', o' + n, none⟩ = some (.int .i64 x) ∧ Below wr.heap.size wr w')
                  (first | exact SF.out _ hbW | exact SF.out _ hb5)
                  (first | (go_at_call 50; refine (kept (w1 := wr) (KV.out _) (by first | exact hbW | assumption)).mono ?_; rintro e w5 ⟨rfl, hb5⟩))
                go_wp2
                go_roundw
                case rel => exact ⟨n + 1, y2, by omega, by go_num, rfl, by show _ = _; rw [HS1.out], hbo.trans (hb5.mono hbo.size)⟩
                case measure => simp [intOf]; omega
              · rw [← HY.out, Bool.true_or] at hs1
                have HS1 := Lib.hid hs1
                clear hs1 hok
                go_wp2
                go_quiet (fail)
                go_wp2
                go_roundw
                case rel => exact ⟨n + 1, true, by omega, by go_num, rfl, by show _ = _; rw [HS1.out], below_drewN hbo _⟩
                case measure => simp [intOf]; omega
            · have e : n = row.length := by omega
              subst e
              have hy := HY.out
              rw [List.take_length] at hy
              have hy' : y = rowTrue s row := hy
              have HY' := Lib.hid hy'
              clear HY hy hy'
              cases y
              · have e : r = false := by rw [HR.out, HNO.out HY'.out.symm]; simp
                subst e
                go_wp2
                go_ret
                exact ⟨rfl, hb4.trans (hbo.mono hb4.size)⟩
              · go_wp2
                go_roundw
                case rel => exact ⟨k + 1, by omega, by go_num, by rw [htk.out, List.all_append, HALL.out]; simp [← HY'.out], hb.trans (hbo.mono hb.size)⟩
                case measure => simp [intOf]; omega
        · have e : k = L.length := by omega
          subst e
          rw [List.take_length] at HALL
          have e : r = true := by rw [HR.out, HALL.out]; simp
          subst e
          go_wp2
          go_ret
          exact ⟨rfl, hb4⟩
  · have hrf : r = false := by rw [HR.out]; simp [h0]
    subst hrf
    have h0' : (ck != 0) = true := by simpa using h0
    clear h0 hcc hck0
    go_enter Try.func24, Try.ntmps24
    go_wp2_with fail
    refine (K1.out _ (by go_grown)).mono ?_
    rintro e w1 ⟨rfl, hb1⟩
    go_wp2
    go_ret
    exact ⟨rfl, Below.trans (by go_grown) (hb1.mono (by simp <;> omega))⟩
end Go.Proofs.Ytlifakbdgmdafaa
