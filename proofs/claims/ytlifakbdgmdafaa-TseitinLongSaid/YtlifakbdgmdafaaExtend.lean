/-
  tseitin.Extend as a plain function; its two closures.
-/
import Derived.Test.YtlifakbdgmdafaaWEncode
namespace Go.Proofs.Ytlifakbdgmdafaa
open Go Go.RowKit

def holdsL (a : VS) (l : Int) : Bool := a.has (max l (-l)) == decide (0 < l)
def setV (st : Int × VS) (b : Bool) : Int × VS := (st.1 + 1, if b then st.2.with_ (st.1 + 1) else st.2)
/-- The partial sums of an exclusive or: what 'odd' is, and what has been set. -/
def xorExt (gate : List Int) (st : Int × VS) (odd : Bool) : List Int → Int × VS
  | [] => st
  | j :: r => xorExt gate (setV st (odd != holdsL st.2 (gate.getD j.toNat 0))) (odd != holdsL st.2 (gate.getD j.toNat 0)) r
def extStep (n : Int) (gs : List Gate) (gate : List Int) (k : Nat) (g : Gate) (st : Int × VS) : Int × VS :=
  if g.kind = 6 ∧ 1 < g.inp.length then xorExt gate st (holdsL st.2 (gate.getD (g.inp.getD 0 0).toNat 0)) g.inp.tail
  else if g.kind = 2 then st else setV st (evalOf n (gs.take (k + 1)) (st.2.cut (VS.all n)))
def extGo (n : Int) (gs : List Gate) (gate : List Int) : Nat → List Gate → Int × VS → Int × VS
  | _, [], st => st
  | k, g :: r, st => extGo n gs gate (k + 1) r (extStep n gs gate k g st)
def extendOf (n : Int) (gs : List Gate) (a : VS) : VS × Bool :=
  if (encodeOf n gs).e ≠ 0 ∨ evalOf n gs a = false then (VS.empty, false)
  else ((extGo n gs (encodeOf n gs).gate 0 gs (n, a)).2.cut (VS.all (encodeOf n gs).n), true)

/-- Only blocks of S may have changed. -/
structure Only (S : Nat → Prop) (w w' : World) : Prop where
  os : w'.os = w.os
  tape : w'.tape = w.tape
  output : w'.output = w.output
  size : w.heap.size ≤ w'.heap.size
  block : ∀ k, k < w.heap.size → ¬ S k → w'.heap[k]? = w.heap[k]?
theorem Only.refl (S : Nat → Prop) (w : World) : Only S w w := ⟨rfl, rfl, rfl, Nat.le_refl _, fun _ _ _ => rfl⟩
theorem Only.trans {S : Nat → Prop} {a b c : World} (h : Only S a b) (k : Only S b c) : Only S a c :=
  ⟨k.os.trans h.os, k.tape.trans h.tape, k.output.trans h.output, Nat.le_trans h.size k.size, fun i hi hn => (k.block i (Nat.lt_of_lt_of_le hi h.size) hn).trans (h.block i hi hn)⟩
theorem Only.of_below {S : Nat → Prop} {a b : World} (h : Below a.heap.size a b) : Only S a b := ⟨h.os, h.tape, h.output, h.size, fun k hk _ => h.block k hk⟩
theorem Only.setCell {S : Nat → Prop} (w : World) {p : Addr} (hp : S p.block) (u : Value) : Only S w (w.setCell p u) :=
  ⟨rfl, rfl, rfl, by simp [World.setCell], fun k hk hn => Below.heap_setCell _ _ _ _ (by intro e; subst e; exact hn hp)⟩
theorem Only.blk {S : Nat → Prop} {w w' : World} {g : Nat} {t : TypeId} {cs : Array Value} (h : Only S w w') (hb : Blk w g t cs) (hg : ¬ S g) : Blk w' g t cs := (h.block g hb.lt hg).trans hb
theorem Only.below {S : Nat → Prop} {B : Nat} {w w' : World} (h : Only S w w') (hB : B ≤ w.heap.size) (hS : ∀ k, S k → B ≤ k) : Below B w w' :=
  ⟨h.os, h.tape, h.output, h.size, fun k hk => h.block k (by omega) (fun hs => by have := hS k hs; omega)⟩

set_option maxHeartbeats 800000 in
theorem ext_set (w : World) (bn ba : Nat) (n : Int) (a : VS) (b : Bool) (hn : Blk w bn 3 #[.int .i64 n]) (ha : Blk w ba 38 #[.int .u64 (a.a.toNat : Int), .int .u64 (a.b.toNat : Int)]) (h0 : 0 ≤ n) (h1 : n ≤ 1000000) :
    Calls Try.prog 36 #[.bool b, .pointer (some ⟨bn, 0, none⟩), .pointer (some ⟨ba, 0, none⟩)] w fun e w' => e = .returned (.tuple #[]) ∧ Blk w' bn 3 #[.int .i64 (setV (n, a) b).1] ∧
      Blk w' ba 38 #[.int .u64 ((setV (n, a) b).2.a.toNat : Int), .int .u64 ((setV (n, a) b).2.b.toNat : Int)] ∧ Only (fun k => k = bn ∨ k = ba) w w' := by
  have hne : bn ≠ ba := hn.apart ha (by decide)
  have c0 := hn.cell 0
  have f0 := hn.free 0
  have d0 := ha.cell 0
  have d1 := ha.cell 1
  have g0 := ha.free 0
  have g1 := ha.free 1
  simp at c0 d0 d1
  have hn1 := hn.put 0 (.int .i64 (n + 1))
  simp at hn1
  have ha1 := ha.far (p := ⟨bn, 0, none⟩) (by simp; omega) (.int .i64 (n + 1))
  have HN1 := Lib.hid hn1
  have HA1 := Lib.hid ha1
  have e0 := ha1.cell 0
  have e1 := ha1.cell 1
  have ef0 := ha1.free 0
  have ef1 := ha1.free 1
  have x0 := hn1.cell 0
  simp at e0 e1 x0
  cases b
  · clear hn1 ha1 hn ha
    go_enter Try.func36, Try.ntmps36
    go_wp2
    go_end0
    exact ⟨rfl, HN1.out, HA1.out, Only.setCell w (.inl rfl) _⟩
  · have kw := vars_with a.a a.b (n + 1)
    have KW := Lib.hid kw
    have hlt := ha1.lt
    clear hn1 ha1 hn ha kw
    go_enter Try.func36, Try.ntmps36
    go_wp2_with fail
    refine (KW.out _).mono ?_
    rintro e w1 ⟨rfl, hb⟩
    have hn2 := HN1.out.keep hb
    have ha2 := HA1.out.keep hb
    have y0 := ha2.cell 0
    have y1 := ha2.cell 1
    have yf0 := ha2.free 0
    have yf1 := ha2.free 1
    simp at y0 y1
    have HN2 := Lib.hid hn2
    have HA2 := Lib.hid ha2
    clear hn2 ha2
    go_wp2
    go_end0
    refine ⟨rfl, (HN2.out.far (by simp; omega) _).far (by simp; omega) _, ?_, ((Only.setCell w (.inl rfl) _).trans (Only.of_below hb)).trans ((Only.setCell w1 (.inr rfl) _).trans (Only.setCell _ (.inr rfl) _))⟩
    have := (HA2.out.put 0 (.int .u64 ((a.with_ (n + 1)).a.toNat : Int))).put 1 (.int .u64 ((a.with_ (n + 1)).b.toNat : Int))
    simpa [setV] using this

theorem ext_holds (w : World) (ba : Nat) (a : VS) (l : Int) (ha : Blk w ba 38 #[.int .u64 (a.a.toNat : Int), .int .u64 (a.b.toNat : Int)]) (h0 : -1000000 ≤ l) (h1 : l ≤ 1000000) :
    Calls Try.prog 38 #[.int .i64 l, .pointer (some ⟨ba, 0, none⟩)] w fun e w' => e = .returned (.bool (holdsL a l)) ∧ Below w.heap.size w w' := by
  have d0 := ha.cell 0
  have d1 := ha.cell 1
  simp at d0 d1
  have kw := vars_has a.a a.b (max l (-l))
  have KW := Lib.hid kw
  unfold holdsL
  generalize hm : VS.has a (max l (-l)) = y
  have hm' : VS.has ⟨a.a, a.b⟩ (max l (-l)) = y := hm
  rw [hm'] at KW
  clear hm hm' kw ha
  by_cases hl : 0 < l
  · have e : max l (-l) = l := by omega
    rw [e] at KW
    clear e
    go_enter Try.func38, Try.ntmps38
    go_wp2_with fail
    refine (KW.out _).mono ?_
    rintro e w1 ⟨rfl, hb⟩
    go_wp2
    go_ret
    exact ⟨ret_bool (by simp [hl]), hb⟩
  · have e : max l (-l) = -l := by omega
    rw [e] at KW
    clear e
    rcases (show l < 0 ∨ l = 0 from by omega) with h9 | h9
    · have hd : decide (0 < l) = false := by simp; omega
      go_enter Try.func38, Try.ntmps38
      go_wp2_with fail
      refine (KW.out _).mono ?_
      rintro e w1 ⟨rfl, hb⟩
      go_wp2
      go_ret
      exact ⟨ret_bool (by simp [hd]), hb⟩
    · subst h9
      go_enter Try.func38, Try.ntmps38
      go_wp2_with fail
      refine (KW.out _).mono ?_
      rintro e w1 ⟨rfl, hb⟩
      go_wp2
      go_ret
      exact ⟨ret_bool (by simp), hb⟩
end Go.Proofs.Ytlifakbdgmdafaa
