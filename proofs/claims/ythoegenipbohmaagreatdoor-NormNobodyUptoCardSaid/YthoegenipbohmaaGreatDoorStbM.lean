/- Stb, Stb2: in one text. -/
import Derived.Test.YthoegenipbohmaaGreatDoorNrmM
import Derived.Test.YthoegenipbohmaaGreatDoorRng
import Derived.Test.YthoegenipbohmaaGreatDoorShelf6
import Derived.Shelf.SlSortCmp.KitK
import Derived.Deep.DeepCutAuto
import Derived.Deep.LoopGhost
import Derived.Shelf.SlSortCmp.PdqK
namespace Go.Proofs.YthoegenipbohmaaGreatDoor
open Go.Shelf Go.RowKit Go.Lib Go.Sort Stb
set_option linter.unusedVariables false
set_option linter.unusedSimpArgs false

/-- A part: an item, with its class. -/
structure Part where
  r : Int
  s : Int
  e : Int
  c : Int
deriving Inhabited, DecidableEq
def ptCells (p : Part) : List Value := [.int .i64 p.r, .int .i64 p.s, .int .i64 p.e, .int .i64 p.c]
def ptKey (p : Part) : Int := p.c
def ptCmp (a b : Part) : Int := cmpI a.c b.c
theorem pt_len (p : Part) : (ptCells p).length = 4 := rfl
theorem pt_one (p : Part) : ∀ v ∈ ptCells p, v.oneCell' = true := by
  intro v hv
  simp [ptCells] at hv
  rcases hv with rfl | rfl | rfl | rfl <;> rfl
theorem pt_less (a b : Part) : ptCmp a b < 0 ↔ ptKey a < ptKey b := by
  unfold ptCmp cmpI ptKey
  split
  · simp; assumption
  · split <;> simp <;> omega
theorem pt_lt (a b : Part) : ltOf ptCmp a b = true ↔ ptKey a < ptKey b := by
  unfold ltOf
  rw [decide_eq_true_eq]
  exact pt_less a b
theorem pt_swo : SWO (ltOf ptCmp) where
  irrefl x := by
    cases h : ltOf ptCmp x x with
    | false => rfl
    | true => have := (pt_lt x x).1 h; omega
  trans x y z h1 h2 := by rw [pt_lt] at *; omega
  ntrans x y z h1 h2 := by
    cases h : ltOf ptCmp x z with
    | false => rfl
    | true =>
      have e1 : ¬ ptKey x < ptKey y := fun hh => by rw [(pt_lt x y).2 hh] at h1; cases h1
      have e2 : ¬ ptKey y < ptKey z := fun hh => by rw [(pt_lt y z).2 hh] at h2; cases h2
      have := (pt_lt x z).1 h
      omega
set_option maxRecDepth 100000 in
theorem items1_walk (a b : Part) (w : World) : Calls Tryz.prog 46 #[.agg (ptCells a).toArray, .agg (ptCells b).toArray] w fun e w' => e = .returned (.int .i64 (ptCmp a b)) ∧ ∃ os, w' = grow w os := by
  unfold ptCells
  go_enter Tryz.func46, Tryz.ntmps46
  go_wp2_with fail
  refine (cmp_walk a.c b.c _).mono ?_
  rintro e w' ⟨rfl, rfl⟩
  go_wp2_with fail
  go_ret
  refine ⟨rfl, #[Obj.cells #[Value.int IntKind.i64 a.r, Value.int IntKind.i64 a.s, Value.int IntKind.i64 a.e, Value.int IntKind.i64 a.c] 82, Obj.cells #[Value.int IntKind.i64 b.r, Value.int IntKind.i64 b.s, Value.int IntKind.i64 b.e, Value.int IntKind.i64 b.c] 82], ?_⟩
  rw [alloc_eq_grow, alloc_eq_grow, grow_grow]
  rfl
theorem pt_lays (blk off size : Nat) (w : World) : CmpLays Tryz.prog 46 #[] ptCells 4 ptCmp blk off size w := fun m os dk hs x y => by
  rw [Array.append_empty]
  refine (items1_walk x y _).mono ?_
  rintro e w' ⟨rfl, os', rfl⟩
  exact ⟨rfl, 0, os', rfl⟩
theorem pt_enters : ∀ (args : Array Value) (W : World), (callFunc 46 args).run Tryz.prog W = .ok (.enter 46 args) W := enters_of Tryz.func46 (by kernel_rfl) rfl
theorem half_u64 (a b : Nat) (h : a + b < 9223372036854775807) : IntKind.i64.wrap ((IntKind.u64.wrap ((a : Int) + (b : Int))) / 2) = (((a + b) / 2 : Nat) : Int) := by
  have e : IntKind.u64.wrap ((a : Int) + (b : Int)) = ((a + b : Nat) : Int) := by
    simp [IntKind.wrap, IntKind.bits, IntKind.signed]
    omega
  rw [e, IntKind.wrap_i64]
  omega
/-- What is asked of a program P: the stable sort's bodies, and what their types are; an element has k cells. -/
structure StbOk (P : Program) (k : Nat) : Prop where
  mixed : P.follows .mixedOrders = true
  f1 : P.funcs[146]? = some Tryz.f146
  f2 : P.funcs[124]? = some Tryz.f124
  f3 : P.funcs[104]? = some Tryz.f104
  t0 : P.underlying 0 = some (TypeDesc.tuple #[])
  a0 : ∀ w, (isAgg 0).run P w = .ok false w
  z0 : ∀ w, (Go.sizeOf 0).run P w = .ok 1 w
  v0 : ∀ w, (zeroValue 0).run P w = .ok (Value.tuple #[]) w
  t3 : P.underlying 3 = some (TypeDesc.int IntKind.i64)
  a3 : ∀ w, (isAgg 3).run P w = .ok false w
  z3 : ∀ w, (Go.sizeOf 3).run P w = .ok 1 w
  v3 : ∀ w, (zeroValue 3).run P w = .ok (Value.int IntKind.i64 0) w
  t4 : P.underlying 4 = some (TypeDesc.bool)
  a4 : ∀ w, (isAgg 4).run P w = .ok false w
  z4 : ∀ w, (Go.sizeOf 4).run P w = .ok 1 w
  v4 : ∀ w, (zeroValue 4).run P w = .ok (Value.bool false) w
  t5 : P.underlying 71 = some (TypeDesc.int IntKind.u64)
  a5 : ∀ w, (isAgg 71).run P w = .ok false w
  z5 : ∀ w, (Go.sizeOf 71).run P w = .ok 1 w
  v5 : ∀ w, (zeroValue 71).run P w = .ok (Value.int IntKind.u64 0) w
  t6 : P.underlying 79 = some (TypeDesc.slice 82)
  a6 : ∀ w, (isAgg 79).run P w = .ok false w
  z6 : ∀ w, (Go.sizeOf 79).run P w = .ok 1 w
  v6 : ∀ w, (zeroValue 79).run P w = .ok (Value.slice none 0 0) w
  t7 : P.underlying 85 = some (TypeDesc.func #[82, 82] #[3] false)
  a7 : ∀ w, (isAgg 85).run P w = .ok false w
  z7 : ∀ w, (Go.sizeOf 85).run P w = .ok 1 w
  v7 : ∀ w, (zeroValue 85).run P w = .ok (Value.nilFunc) w
  aE : ∀ w, (isAgg 82).run P w = .ok true w
  zE : ∀ w, (Go.sizeOf 82).run P w = .ok k w
theorem stb_ok : StbOk Tryz.prog 4 where
  mixed := by kernel_rfl
  f1 := Tryz.func146
  f2 := Tryz.func124
  f3 := Tryz.func104
  t0 := Tryz.underlying0
  a0 := Tryz.isAgg0
  z0 := Tryz.sizeOf0
  v0 := Tryz.zeroValue0
  t3 := Tryz.underlying3
  a3 := Tryz.isAgg3
  z3 := Tryz.sizeOf3
  v3 := Tryz.zeroValue3
  t4 := Tryz.underlying4
  a4 := Tryz.isAgg4
  z4 := Tryz.sizeOf4
  v4 := Tryz.zeroValue4
  t5 := Tryz.underlying71
  a5 := Tryz.isAgg71
  z5 := Tryz.sizeOf71
  v5 := Tryz.zeroValue71
  t6 := Tryz.underlying79
  a6 := Tryz.isAgg79
  z6 := Tryz.sizeOf79
  v6 := Tryz.zeroValue79
  t7 := Tryz.underlying85
  a7 := Tryz.isAgg85
  z7 := Tryz.sizeOf85
  v7 := Tryz.zeroValue85
  aE := fun w => Tryz.isAgg82 w
  zE := fun w => Tryz.sizeOf82 w
section
variable {P : Program} {k : Nat} {α : Type} [Inhabited α] {enc : α → List Value} {cf : α → α → Int} {key : α → Int} {g : Nat} {cb : Array Value}
variable {blk off cap : Nat} {d0 : Array α} {w0 : World}
set_option maxHeartbeats 4000000 in
set_option maxRecDepth 1000000 in
theorem swapRange_walk (L : StbOk P k) (R : RowK enc k w0 blk off d0) (a b n : Nat) (d : Array α) (w : World) (hs : d0.size = d.size) (S : SWK enc k w0 blk off d w) (ha : a + n ≤ d.size) (hb : b + n ≤ d.size) (hsz : d.size < 1000000000) :
    Calls P 146 #[.slice (some ⟨blk, off, none⟩) d.size cap, .int .i64 a, .int .i64 b, .int .i64 n, .func (.func g) #[] cb] w fun e w' => e = .returned (.tuple #[]) ∧ SWK enc k w0 blk off (swapR n a b d) w' := by
  have mixed := L.mixed; have t0 := L.t0; have a0 := L.a0; have z0 := L.z0; have v0 := L.v0; have t3 := L.t3; have a3 := L.a3; have z3 := L.z3; have v3 := L.v3; have t4 := L.t4; have a4 := L.a4; have z4 := L.z4; have v4 := L.v4; have t5 := L.t5; have a5 := L.a5; have z5 := L.z5; have v5 := L.v5; have t6 := L.t6; have a6 := L.a6; have z6 := L.z6; have v6 := L.v6; have t7 := L.t7; have a7 := L.a7; have z7 := L.z7; have v7 := L.v7; have aE := L.aE; have zE := L.zE
  have F1 := L.f1; have F2 := L.f2; have F3 := L.f3
  have e1 : ∀ args w, (callFunc 146 args).run P w = .ok (.enter 146 args) w := enters_of F1 (by kernel_rfl) rfl
  have e2 : ∀ args w, (callFunc 124 args).run P w = .ok (.enter 124 args) w := enters_of F2 (by kernel_rfl) rfl
  have e3 : ∀ args w, (callFunc 104 args).run P w = .ok (.enter 104 args) w := enters_of F3 (by kernel_rfl) rfl
  have S0 : Aside (SWK enc k w0 blk off d w) := S
  clear S
  clear F2 F3
  go_enter F1, Tryz.ntmps146
  go_wp2
  go_loopg [10] n (fun kx s10 wr => ∃ (i : Nat) (dk : Array α), s10 = .int .i64 i ∧ i ≤ n ∧ n - i ≤ kx ∧ dk.size = d.size ∧ Aside (SWK enc k w0 blk off dk wr) ∧ Hid (swapR (n - i) (a + i) (b + i) dk = swapR n a b d))
  case atStart => exact ⟨0, d, rfl, by omega, by omega, rfl, S0, rfl⟩
  case round =>
    clear S0
    obtain ⟨i, dk, rfl, hin, hkx, hds, S1, heq⟩ := hrel
    by_cases hlt : i < n
    · have hltz : (i : Int) < (n : Int) := by omega
      have heq2 : Hid (swapR (n - (i + 1)) (a + (i + 1)) (b + (i + 1)) (swp dk (a + i) (b + i)) = swapR n a b d) := by
        have := heq.out
        rw [show n - i = (n - (i + 1)) + 1 by omega] at this
        exact this
      clear heq
      obtain ⟨p, hp⟩ : ∃ p, p = a + i := ⟨_, rfl⟩
      obtain ⟨q, hq⟩ : ∃ q, q = b + i := ⟨_, rfl⟩
      rw [← hp, ← hq] at heq2
      have wp : IntKind.i64.wrap ((a : Int) + (i : Int)) = (p : Int) := by rw [IntKind.wrap_i64]; omega
      have wq : IntKind.i64.wrap ((b : Int) + (i : Int)) = (q : Int) := by rw [IntKind.wrap_i64]; omega
      have hpl : p < d.size := by omega
      have hql : q < d.size := by omega
      clear hp hq
      have ea1x : ((p : Int)).toNat = p := by omega
      have pa1x : (0 : Int) ≤ (p : Int) := by omega
      have ba1x : (p : Int) < (d.size : Int) := by omega
      have ra1x : IntKind.i64.wrap ((p : Int)) = (p : Int) := by rw [IntKind.wrap_i64]; omega
      have ea1y : ((q : Int)).toNat = q := by omega
      have pa1y : (0 : Int) ≤ (q : Int) := by omega
      have ba1y : (q : Int) < (d.size : Int) := by omega
      have ra1y : IntKind.i64.wrap ((q : Int)) = (q : Int) := by rw [IntKind.wrap_i64]; omega
      have S2 : Aside (SWK enc k w0 blk off (swp dk p q) ((wr.drew.setCells blk (off + p * k) (enc dk[q]!)).setCells blk (off + q * k) (enc dk[p]!))) := S1.out.swapped R p q (by omega) (by omega)
      have l1a := S1.out.ld1 R (by omega) P p (by omega)
      have l1b := S1.out.ld1 R (by omega) P q (by omega)
      have s1a := S1.out.st1 R (by omega) P p (by omega) dk[q]!
      have s1b := S1.out.st2 R (by omega) P p q (by omega) (by omega) dk[q]! dk[p]!
      have n1a : (enc dk[p]!).length = k := R.hk _
      have n1b : (enc dk[q]!).length = k := R.hk _
      generalize enc dk[p]! = cI1 at S2 l1a s1b n1a
      generalize enc dk[q]! = cJ1 at S2 l1b s1a s1b n1b
      clear S1
      go_wp2_with fail
      go_big_region_o
      clear l1a l1b s1a s1b
      generalize (wr.drew.setCells blk (off + p * k) cJ1).setCells blk (off + q * k) cI1 = w1 at S2 ⊢
      clear n1a n1b ea1x pa1x ba1x ra1x ea1y pa1y ba1y ra1y
      go_wp2
      go_roundg (n - (i + 1))
      case measure => omega
      case rel => exact ⟨i + 1, swp dk p q, by go_num, by omega, Nat.le_refl _, by rw [size_swp]; exact hds, S2, heq2⟩
    · have hin' : i = n := by omega
      subst hin'
      go_wp2
      go_end0
      refine ⟨rfl, ?_⟩
      have := heq.out
      rw [Nat.sub_self] at this
      rw [← this]
      exact S1.out
set_option maxHeartbeats 4000000 in
set_option maxRecDepth 1000000 in
theorem rotate_walk (L : StbOk P k) (R : RowK enc k w0 blk off d0) (a m b : Nat) (d : Array α) (w : World) (hs : d0.size = d.size) (S : SWK enc k w0 blk off d w) (h1 : a < m) (h2 : m < b) (h3 : b ≤ d.size) (hsz : d.size < 1000000000) :
    Calls P 124 #[.slice (some ⟨blk, off, none⟩) d.size cap, .int .i64 a, .int .i64 m, .int .i64 b, .func (.func g) #[] cb] w fun e w' => e = .returned (.tuple #[]) ∧ ∃ d', RotSaid a m b d d' ∧ SWK enc k w0 blk off d' w' := by
  have mixed := L.mixed; have t0 := L.t0; have a0 := L.a0; have z0 := L.z0; have v0 := L.v0; have t3 := L.t3; have a3 := L.a3; have z3 := L.z3; have v3 := L.v3; have t4 := L.t4; have a4 := L.a4; have z4 := L.z4; have v4 := L.v4; have t5 := L.t5; have a5 := L.a5; have z5 := L.z5; have v5 := L.v5; have t6 := L.t6; have a6 := L.a6; have z6 := L.z6; have v6 := L.v6; have t7 := L.t7; have a7 := L.a7; have z7 := L.z7; have v7 := L.v7; have aE := L.aE; have zE := L.zE
  have F1 := L.f1; have F2 := L.f2; have F3 := L.f3
  have e1 : ∀ args w, (callFunc 146 args).run P w = .ok (.enter 146 args) w := enters_of F1 (by kernel_rfl) rfl
  have e2 : ∀ args w, (callFunc 124 args).run P w = .ok (.enter 124 args) w := enters_of F2 (by kernel_rfl) rfl
  have e3 : ∀ args w, (callFunc 104 args).run P w = .ok (.enter 104 args) w := enters_of F3 (by kernel_rfl) rfl
  have S0 : Aside (SWK enc k w0 blk off d w) := S
  obtain ⟨T, hT, hfin⟩ := RotInv.start (d := d) (Nat.le_of_lt h1) (Nat.le_of_lt h2) h3
  have HT : Hid (RotInv m (m - a) (b - m) d T) := hT
  have HF : Hid (∀ d' : Array α, d'.toList = T → RotSaid a m b d d') := hfin
  clear S hT hfin
  have w1 : IntKind.i64.wrap ((m : Int) - (a : Int)) = ((m - a : Nat) : Int) := by rw [IntKind.wrap_i64]; omega
  have w2 : IntKind.i64.wrap ((b : Int) - (m : Int)) = ((b - m : Nat) : Int) := by rw [IntKind.wrap_i64]; omega
  clear F1 F3
  go_enter F2, Tryz.ntmps124
  go_wp2
  go_loopg [10, 11] (b - a) (fun kx s10 s11 wr => ∃ (i j : Nat) (dk : Array α), s10 = .int .i64 i ∧ s11 = .int .i64 j ∧ 0 < i ∧ 0 < j ∧ i + j ≤ kx ∧ i ≤ m ∧ m + j ≤ b ∧ dk.size = d.size ∧ Aside (SWK enc k w0 blk off dk wr) ∧ Hid (RotInv m i j dk T))
  case atStart => exact ⟨m - a, b - m, d, by first | rfl | (rw [w1]), by first | rfl | (rw [w2]), by omega, by omega, by omega, by omega, by omega, rfl, S0, HT⟩
  case round =>
    clear S0 HT w1 w2
    obtain ⟨i, j, dk, rfl, rfl, hi0, hj0, hkx, him, hjb, hds, S1, HI⟩ := hrel
    have v1 : IntKind.i64.wrap ((m : Int) - (i : Int)) = ((m - i : Nat) : Int) := by rw [IntKind.wrap_i64]; omega
    by_cases hij : i = j
    · subst hij
      have hne : ((i : Int) != (i : Int)) = false := by simp
      have hc := swapRange_walk (g := g) (cb := cb) (cap := cap) L R (m - i) m i dk wr (by omega) S1.out (by omega) (by omega) (by omega)
      rw [hds] at hc
      go_wp2_with (go_at_fn 146; refine hc.mono ?_; rintro e w1 ⟨rfl, S2⟩)
      go_end0
      exact ⟨rfl, _, HF.out _ (RotInv.done HI.out), S2⟩
    · have hne : ((i : Int) != (j : Int)) = true := by rw [bne_iff_ne]; omega
      by_cases hji : j < i
      · have hgt : decide ((i : Int) > (j : Int)) = true := by rw [decide_eq_true_eq]; omega
        have v2 : IntKind.i64.wrap ((i : Int) - (j : Int)) = ((i - j : Nat) : Int) := by rw [IntKind.wrap_i64]; omega
        have hc := swapRange_walk (g := g) (cb := cb) (cap := cap) L R (m - i) m j dk wr (by omega) S1.out (by omega) (by omega) (by omega)
        rw [hds] at hc
        have HI2 : Hid (RotInv m (i - j) j (swapR j (m - i) m dk) T) := RotInv.big HI.out hji
        clear HI
        go_wp2_with (go_at_fn 146; refine hc.mono ?_; rintro e w1 ⟨rfl, S2⟩)
        have S2 : Aside _ := S2
        clear hc v1
        go_roundg (i - j + j)
        case measure => omega
        case rel => exact ⟨i - j, j, _, by first | rfl | (rw [v2]), rfl, by omega, by omega, by omega, by omega, by omega, by rw [swapR_size]; exact hds, S2, HI2⟩
      · have hgt : decide ((i : Int) > (j : Int)) = false := by rw [decide_eq_false_iff_not]; omega
        have v2 : IntKind.i64.wrap ((j : Int) - (i : Int)) = ((j - i : Nat) : Int) := by rw [IntKind.wrap_i64]; omega
        obtain ⟨q, hq⟩ : ∃ q, q = m + j := ⟨_, rfl⟩
        have v3 : IntKind.i64.wrap ((m : Int) + (j : Int)) = (q : Int) := by rw [IntKind.wrap_i64]; omega
        have v4 : IntKind.i64.wrap ((q : Int) - (i : Int)) = ((q - i : Nat) : Int) := by rw [IntKind.wrap_i64]; omega
        have hc := swapRange_walk (g := g) (cb := cb) (cap := cap) L R (m - i) (q - i) i dk wr (by omega) S1.out (by omega) (by omega) (by omega)
        rw [hds] at hc
        have HI2 : Hid (RotInv m i (j - i) (swapR i (m - i) (q - i) dk) T) := by rw [hq]; exact RotInv.small HI.out (by omega)
        clear HI hq
        go_wp2_with (go_at_fn 146; refine hc.mono ?_; rintro e w1 ⟨rfl, S2⟩)
        have S2 : Aside _ := S2
        clear hc v1 v3 v4
        go_roundg (i + (j - i))
        case measure => omega
        case rel => exact ⟨i, j - i, _, rfl, by first | rfl | (rw [v2]), by omega, by omega, by omega, by omega, by omega, by rw [swapR_size]; exact hds, S2, HI2⟩
set_option maxHeartbeats 25600000 in
set_option maxRecDepth 1000000 in
theorem symMerge_walk (L : StbOk P k) (eg : ∀ args w, (callFunc g args).run P w = .ok (.enter g args) w) (hls : ∀ x y, cf x y < 0 ↔ key x < key y) (hcmp : CmpLays P g cb enc k cf blk off d0.size w0) (R : RowK enc k w0 blk off d0) : ∀ (N a m b : Nat) (d : Array α) (w : World), b - a < N → d0.size = d.size → SWK enc k w0 blk off d w → a < m → m < b → b ≤ d.size → d.size < 1000000000 →
    Calls P 104 #[.slice (some ⟨blk, off, none⟩) d.size cap, .int .i64 a, .int .i64 m, .int .i64 b, .func (.func g) #[] cb] w fun e w' => e = .returned (.tuple #[]) ∧ ∃ d', MergeSaid key a m b d d' ∧ SWK enc k w0 blk off d' w' := by
  have mixed := L.mixed; have t0 := L.t0; have a0 := L.a0; have z0 := L.z0; have v0 := L.v0; have t3 := L.t3; have a3 := L.a3; have z3 := L.z3; have v3 := L.v3; have t4 := L.t4; have a4 := L.a4; have z4 := L.z4; have v4 := L.v4; have t5 := L.t5; have a5 := L.a5; have z5 := L.z5; have v5 := L.v5; have t6 := L.t6; have a6 := L.a6; have z6 := L.z6; have v6 := L.v6; have t7 := L.t7; have a7 := L.a7; have z7 := L.z7; have v7 := L.v7; have aE := L.aE; have zE := L.zE
  have F1 := L.f1; have F2 := L.f2; have F3 := L.f3
  have e1 : ∀ args w, (callFunc 146 args).run P w = .ok (.enter 146 args) w := enters_of F1 (by kernel_rfl) rfl
  have e2 : ∀ args w, (callFunc 124 args).run P w = .ok (.enter 124 args) w := enters_of F2 (by kernel_rfl) rfl
  have e3 : ∀ args w, (callFunc 104 args).run P w = .ok (.enter 104 args) w := enters_of F3 (by kernel_rfl) rfl
  have HC : Aside _ := hcmp
  have HLS : Aside _ := hls
  clear hcmp hls
  intro N
  induction N with
  | zero => intro _ _ _ _ _ h; exact absurd h (Nat.not_lt_zero _)
  | succ N ih =>
    intro a m b d w hN hs S h1 h2 h3 hsz
    have S0 : Aside (SWK enc k w0 blk off d w) := S
    have IH : Aside _ := ih
    clear S ih
    go_enter F3, Tryz.ntmps104
    by_cases hA : m = a + 1
    · as_aux_lemma =>
      have v0 : IntKind.i64.wrap ((m : Int) - (a : Int)) = 1 := by rw [IntKind.wrap_i64]; omega
      have HA : Hid (m = a + 1) := hA
      clear hA
      go_wp2_with fail
      clear v0
      -- where the one goes
      go_loopg [10, 11] (b - m) (fun kx s10 s11 wr => ∃ (i j : Nat), s10 = .int .i64 i ∧ s11 = .int .i64 j ∧ m ≤ i ∧ i ≤ j ∧ j ≤ b ∧ j - i ≤ kx ∧ Aside (SWK enc k w0 blk off d wr) ∧ Hid (i = m ∨ key d[i - 1]! < key d[a]!) ∧ Hid (j = b ∨ key d[a]! ≤ key d[j]!))
      case atStart => exact ⟨m, b, rfl, rfl, Nat.le_refl _, by omega, Nat.le_refl _, Nat.le_refl _, S0, .inl rfl, .inl rfl⟩
      case round =>
        clear S0
        obtain ⟨i, j, rfl, rfl, hai, hij, hjb, hkx, S1, HL, HR⟩ := hrel
        by_cases hlt : i < j
        · obtain ⟨h, hh⟩ : ∃ h, h = (i + j) / 2 := ⟨_, rfl⟩
          have u1 : IntKind.i64.wrap ((i : Int) + (j : Int)) = (i : Int) + (j : Int) := by rw [IntKind.wrap_i64]; omega
          have u2 : ((i : Int) + (j : Int)) / 2 = (h : Int) := by omega
          have hih : i ≤ h := by omega
          have hhj : h < j := by omega
          have hltz : (i : Int) < (j : Int) := by omega
          clear hh
          by_cases hk1 : key d[h]! < key d[a]!
          · have HL2 : Hid (h + 1 = m ∨ key d[h + 1 - 1]! < key d[a]!) := .inr (by rw [Nat.add_sub_cancel]; exact hk1)
            clear HL
            have ea1x : ((h : Int)).toNat = h := by omega
            have pa1x : (0 : Int) ≤ (h : Int) := by omega
            have ba1x : (h : Int) < (d.size : Int) := by omega
            have ra1x : IntKind.i64.wrap ((h : Int)) = (h : Int) := by rw [IntKind.wrap_i64]; omega
            have ea1y : ((a : Int)).toNat = a := by omega
            have pa1y : (0 : Int) ≤ (a : Int) := by omega
            have ba1y : (a : Int) < (d.size : Int) := by omega
            have ra1y : IntKind.i64.wrap ((a : Int)) = (a : Int) := by rw [IntKind.wrap_i64]; omega
            obtain ⟨x1, hx1⟩ : ∃ x, x = d[h]! := ⟨_, rfl⟩
            obtain ⟨y1, hy1⟩ : ∃ x, x = d[a]! := ⟨_, rfl⟩
            have l1a := S1.out.ld R (by omega) P h (by omega)
            have l1b := S1.out.ld R (by omega) P a (by omega)
            rw [← hx1] at l1a
            rw [← hy1] at l1b
            have hc1 := S1.out.cmp HC.out (by omega) x1 y1
            have hv1 : cf x1 y1 < 0 := by rw [hx1, hy1]; exact (HLS.out _ _).2 hk1
            have hd1 : decide (cf x1 y1 < 0) = true := decide_eq_true hv1
            clear hx1 hy1 hv1
            go_wp2_with fail
            go_quiet_grown (first | (go_at_fn g; refine Calls.grown_of (hc1 _ _)))
            have S2 : Aside (SWK enc k w0 blk off d (grow (wr.drewN nq) osq)) := S1.out.grown nq osq
            clear l1a l1b hc1 hd1 S1 ea1x pa1x ba1x ra1x ea1y pa1y ba1y ra1y
            generalize grow (wr.drewN nq) osq = w1 at S2 ⊢
            clear nq osq
            go_wp2
            clear hk1
            go_roundg (j - (h + 1))
            case measure => omega
            case rel => exact ⟨h + 1, j, by go_num, rfl, by omega, by omega, hjb, Nat.le_refl _, S2, HL2, HR⟩
          · have HR2 : Hid (h = b ∨ key d[a]! ≤ key d[h]!) := .inr (by omega)
            clear HR
            have ea1x : ((h : Int)).toNat = h := by omega
            have pa1x : (0 : Int) ≤ (h : Int) := by omega
            have ba1x : (h : Int) < (d.size : Int) := by omega
            have ra1x : IntKind.i64.wrap ((h : Int)) = (h : Int) := by rw [IntKind.wrap_i64]; omega
            have ea1y : ((a : Int)).toNat = a := by omega
            have pa1y : (0 : Int) ≤ (a : Int) := by omega
            have ba1y : (a : Int) < (d.size : Int) := by omega
            have ra1y : IntKind.i64.wrap ((a : Int)) = (a : Int) := by rw [IntKind.wrap_i64]; omega
            obtain ⟨x1, hx1⟩ : ∃ x, x = d[h]! := ⟨_, rfl⟩
            obtain ⟨y1, hy1⟩ : ∃ x, x = d[a]! := ⟨_, rfl⟩
            have l1a := S1.out.ld R (by omega) P h (by omega)
            have l1b := S1.out.ld R (by omega) P a (by omega)
            rw [← hx1] at l1a
            rw [← hy1] at l1b
            have hc1 := S1.out.cmp HC.out (by omega) x1 y1
            have hv1 : ¬ cf x1 y1 < 0 := by rw [hx1, hy1]; exact fun hh => hk1 ((HLS.out _ _).1 hh)
            have hd1 : decide (cf x1 y1 < 0) = false := decide_eq_false hv1
            clear hx1 hy1 hv1
            go_wp2_with fail
            go_quiet_grown (first | (go_at_fn g; refine Calls.grown_of (hc1 _ _)))
            have S2 : Aside (SWK enc k w0 blk off d (grow (wr.drewN nq) osq)) := S1.out.grown nq osq
            clear l1a l1b hc1 hd1 S1 ea1x pa1x ba1x ra1x ea1y pa1y ba1y ra1y
            generalize grow (wr.drewN nq) osq = w1 at S2 ⊢
            clear nq osq
            go_wp2
            clear hk1
            go_roundg (h - i)
            case measure => omega
            case rel => exact ⟨i, h, rfl, by go_num, hai, hih, by omega, Nat.le_refl _, S2, HL, HR2⟩
        · obtain rfl : i = j := by omega
          have HM : Hid (MergeSaid key a m b d (fwd (i - 1 - a) a d)) := by
            have hA := HA.out
            subst hA
            exact merge_left hai hjb HL.out (HR.out.imp id (fun h => by omega))
          have hai2 : a + 1 ≤ i := by have := HA.out; omega
          have hii : IntKind.i64.wrap ((i : Int) - 1) = (i : Int) - 1 := by rw [IntKind.wrap_i64]; omega
          clear HL HR
          go_wp2_with fail
          go_loopg [13] (i - 1 - a) (fun kx s13 wx => ∃ (kk : Nat) (dk : Array α), s13 = .int .i64 kk ∧ a ≤ kk ∧ kk ≤ i - 1 ∧ i - 1 - kk ≤ kx ∧ dk.size = d.size ∧ Aside (SWK enc k w0 blk off dk wx) ∧ Hid (fwd (i - 1 - kk) kk dk = fwd (i - 1 - a) a d))
          case atStart => exact ⟨a, d, rfl, Nat.le_refl _, by omega, Nat.le_refl _, rfl, S1, rfl⟩
          case round =>
            clear S1
            obtain ⟨kk, dk, rfl, hak, hki, hkx2, hds, S1, heq⟩ := hrel
            by_cases hlk : kk < i - 1
            · have hlz : (kk : Int) < (i : Int) - 1 := by omega
              obtain ⟨k1, hk1⟩ : ∃ k1, k1 = kk + 1 := ⟨_, rfl⟩
              have heq2 : Hid (fwd (i - 1 - k1) k1 (swp dk kk k1) = fwd (i - 1 - a) a d) := by
                have := heq.out
                rw [show i - 1 - kk = (i - 1 - (kk + 1)) + 1 by omega] at this
                rw [hk1]
                exact this
              have wk : IntKind.i64.wrap ((kk : Int) + 1) = (k1 : Int) := by rw [IntKind.wrap_i64]; omega
              have hk1l : k1 < d.size := by omega
              have hkl : kk < d.size := by omega
              have HK1 : Hid (k1 = kk + 1) := hk1
              clear heq hk1
              have ea3x : ((kk : Int)).toNat = kk := by omega
              have pa3x : (0 : Int) ≤ (kk : Int) := by omega
              have ba3x : (kk : Int) < (d.size : Int) := by omega
              have ra3x : IntKind.i64.wrap ((kk : Int)) = (kk : Int) := by rw [IntKind.wrap_i64]; omega
              have ea3y : ((k1 : Int)).toNat = k1 := by omega
              have pa3y : (0 : Int) ≤ (k1 : Int) := by omega
              have ba3y : (k1 : Int) < (d.size : Int) := by omega
              have ra3y : IntKind.i64.wrap ((k1 : Int)) = (k1 : Int) := by rw [IntKind.wrap_i64]; omega
              have S2 : Aside (SWK enc k w0 blk off (swp dk kk k1) ((wr.drew.setCells blk (off + kk * k) (enc dk[k1]!)).setCells blk (off + k1 * k) (enc dk[kk]!))) := S1.out.swapped R kk k1 (by omega) (by omega)
              have l3a := S1.out.ld1 R (by omega) P kk (by omega)
              have l3b := S1.out.ld1 R (by omega) P k1 (by omega)
              have s3a := S1.out.st1 R (by omega) P kk (by omega) dk[k1]!
              have s3b := S1.out.st2 R (by omega) P kk k1 (by omega) (by omega) dk[k1]! dk[kk]!
              have n3a : (enc dk[kk]!).length = k := R.hk _
              have n3b : (enc dk[k1]!).length = k := R.hk _
              generalize enc dk[kk]! = cI3 at S2 l3a s3b n3a
              generalize enc dk[k1]! = cJ3 at S2 l3b s3a s3b n3b
              clear S1
              go_wp2_with fail
              go_big_region_o
              clear l3a l3b s3a s3b
              generalize (wr.drew.setCells blk (off + kk * k) cJ3).setCells blk (off + k1 * k) cI3 = w3 at S2 ⊢
              clear n3a n3b ea3x pa3x ba3x ra3x ea3y pa3y ba3y ra3y
              go_wp2
              go_roundg (i - 1 - k1)
              case measure => have hk1 := HK1.out; omega
              case rel => have hk1 := HK1.out; exact ⟨k1, swp dk kk k1, by first | rfl | (rw [wk]) | go_num, by omega, by omega, Nat.le_refl _, by rw [size_swp]; exact hds, S2, heq2⟩
            · have hk2 : kk = i - 1 := by omega
              have hlz : ¬ (kk : Int) < (i : Int) - 1 := by omega
              go_wp2
              first | go_end0 | (refine bodyPost_ret (results_none rfl _ _ _) rfl ?_)
              refine ⟨rfl, _, HM.out, ?_⟩
              have := heq.out
              rw [hk2, Nat.sub_self] at this
              rw [← this]
              exact S1.out
    · obtain ⟨c0, hc0⟩ : ∃ c0 : Nat, c0 = m - a := ⟨_, rfl⟩
      have v0 : IntKind.i64.wrap ((m : Int) - (a : Int)) = (c0 : Int) := by rw [IntKind.wrap_i64]; omega
      have q0 : ((c0 : Int) == 1) = false := by rw [beq_eq_false_iff_ne]; omega
      clear hc0
      by_cases hB : b = m + 1
      · as_aux_lemma =>
        have v1 : IntKind.i64.wrap ((b : Int) - (m : Int)) = 1 := by rw [IntKind.wrap_i64]; omega
        have HB : Hid (b = m + 1) := hB
        clear hB
        go_wp2_with fail
        clear q0 v0 v1
        go_loopg [14, 15] (m - a) (fun kx s10 s11 wr => ∃ (i j : Nat), s10 = .int .i64 i ∧ s11 = .int .i64 j ∧ a ≤ i ∧ i ≤ j ∧ j ≤ m ∧ j - i ≤ kx ∧ Aside (SWK enc k w0 blk off d wr) ∧ Hid (i = a ∨ key d[i - 1]! ≤ key d[m]!) ∧ Hid (j = m ∨ key d[m]! < key d[j]!))
        case atStart => exact ⟨a, m, rfl, rfl, Nat.le_refl _, by omega, Nat.le_refl _, Nat.le_refl _, S0, .inl rfl, .inl rfl⟩
        case round =>
          clear S0
          obtain ⟨i, j, rfl, rfl, hai, hij, hjb, hkx, S1, HL, HR⟩ := hrel
          by_cases hlt : i < j
          · obtain ⟨h, hh⟩ : ∃ h, h = (i + j) / 2 := ⟨_, rfl⟩
            have u1 : IntKind.i64.wrap ((i : Int) + (j : Int)) = (i : Int) + (j : Int) := by rw [IntKind.wrap_i64]; omega
            have u2 : ((i : Int) + (j : Int)) / 2 = (h : Int) := by omega
            have hih : i ≤ h := by omega
            have hhj : h < j := by omega
            have hltz : (i : Int) < (j : Int) := by omega
            clear hh
            by_cases hk1 : key d[m]! < key d[h]!
            · have HR2 : Hid (h = m ∨ key d[m]! < key d[h]!) := .inr hk1
              clear HR
              have ea1x : ((m : Int)).toNat = m := by omega
              have pa1x : (0 : Int) ≤ (m : Int) := by omega
              have ba1x : (m : Int) < (d.size : Int) := by omega
              have ra1x : IntKind.i64.wrap ((m : Int)) = (m : Int) := by rw [IntKind.wrap_i64]; omega
              have ea1y : ((h : Int)).toNat = h := by omega
              have pa1y : (0 : Int) ≤ (h : Int) := by omega
              have ba1y : (h : Int) < (d.size : Int) := by omega
              have ra1y : IntKind.i64.wrap ((h : Int)) = (h : Int) := by rw [IntKind.wrap_i64]; omega
              obtain ⟨x1, hx1⟩ : ∃ x, x = d[m]! := ⟨_, rfl⟩
              obtain ⟨y1, hy1⟩ : ∃ x, x = d[h]! := ⟨_, rfl⟩
              have l1a := S1.out.ld R (by omega) P m (by omega)
              have l1b := S1.out.ld R (by omega) P h (by omega)
              rw [← hx1] at l1a
              rw [← hy1] at l1b
              have hc1 := S1.out.cmp HC.out (by omega) x1 y1
              have hv1 : cf x1 y1 < 0 := by rw [hx1, hy1]; exact (HLS.out _ _).2 hk1
              have hd1 : decide (cf x1 y1 < 0) = true := decide_eq_true hv1
              clear hx1 hy1 hv1
              go_wp2_with fail
              go_quiet_grown (first | (go_at_fn g; refine Calls.grown_of (hc1 _ _)))
              have S2 : Aside (SWK enc k w0 blk off d (grow (wr.drewN nq) osq)) := S1.out.grown nq osq
              clear l1a l1b hc1 hd1 S1 ea1x pa1x ba1x ra1x ea1y pa1y ba1y ra1y
              generalize grow (wr.drewN nq) osq = w1 at S2 ⊢
              clear nq osq
              go_wp2
              clear hk1
              go_roundg (h - i)
              case measure => omega
              case rel => exact ⟨i, h, rfl, by go_num, hai, hih, by omega, Nat.le_refl _, S2, HL, HR2⟩
            · have HL2 : Hid (h + 1 = a ∨ key d[h + 1 - 1]! ≤ key d[m]!) := .inr (by rw [Nat.add_sub_cancel]; omega)
              clear HL
              have ea1x : ((m : Int)).toNat = m := by omega
              have pa1x : (0 : Int) ≤ (m : Int) := by omega
              have ba1x : (m : Int) < (d.size : Int) := by omega
              have ra1x : IntKind.i64.wrap ((m : Int)) = (m : Int) := by rw [IntKind.wrap_i64]; omega
              have ea1y : ((h : Int)).toNat = h := by omega
              have pa1y : (0 : Int) ≤ (h : Int) := by omega
              have ba1y : (h : Int) < (d.size : Int) := by omega
              have ra1y : IntKind.i64.wrap ((h : Int)) = (h : Int) := by rw [IntKind.wrap_i64]; omega
              obtain ⟨x1, hx1⟩ : ∃ x, x = d[m]! := ⟨_, rfl⟩
              obtain ⟨y1, hy1⟩ : ∃ x, x = d[h]! := ⟨_, rfl⟩
              have l1a := S1.out.ld R (by omega) P m (by omega)
              have l1b := S1.out.ld R (by omega) P h (by omega)
              rw [← hx1] at l1a
              rw [← hy1] at l1b
              have hc1 := S1.out.cmp HC.out (by omega) x1 y1
              have hv1 : ¬ cf x1 y1 < 0 := by rw [hx1, hy1]; exact fun hh => hk1 ((HLS.out _ _).1 hh)
              have hd1 : decide (cf x1 y1 < 0) = false := decide_eq_false hv1
              clear hx1 hy1 hv1
              go_wp2_with fail
              go_quiet_grown (first | (go_at_fn g; refine Calls.grown_of (hc1 _ _)))
              have S2 : Aside (SWK enc k w0 blk off d (grow (wr.drewN nq) osq)) := S1.out.grown nq osq
              clear l1a l1b hc1 hd1 S1 ea1x pa1x ba1x ra1x ea1y pa1y ba1y ra1y
              generalize grow (wr.drewN nq) osq = w1 at S2 ⊢
              clear nq osq
              go_wp2
              clear hk1
              go_roundg (j - (h + 1))
              case measure => omega
              case rel => exact ⟨h + 1, j, by go_num, rfl, by omega, by omega, hjb, Nat.le_refl _, S2, HL2, HR⟩
          · obtain rfl : i = j := by omega
            have HM : Hid (MergeSaid key a m b d (bwd (m - i) m d)) := by
              rw [HB.out]
              exact merge_right hai hjb (HL.out.imp id (fun h => by omega)) HR.out
            clear HL HR
            go_wp2_with fail
            go_loopg [17] (m - i) (fun kx s13 wx => ∃ (kk : Nat) (dk : Array α), s13 = .int .i64 kk ∧ i ≤ kk ∧ kk ≤ m ∧ kk - i ≤ kx ∧ dk.size = d.size ∧ Aside (SWK enc k w0 blk off dk wx) ∧ Hid (bwd (kk - i) kk dk = bwd (m - i) m d))
            case atStart => exact ⟨m, d, rfl, hjb, Nat.le_refl _, Nat.le_refl _, rfl, S1, rfl⟩
            case round =>
              clear S1
              obtain ⟨kk, dk, rfl, hak, hki, hkx2, hds, S1, heq⟩ := hrel
              by_cases hlk : i < kk
              · have hlz : decide ((kk : Int) > (i : Int)) = true := by rw [decide_eq_true_eq]; omega
                obtain ⟨k1, hk1⟩ : ∃ k1, k1 = kk - 1 := ⟨_, rfl⟩
                have heq2 : Hid (bwd (k1 - i) k1 (swp dk kk k1) = bwd (m - i) m d) := by
                  have := heq.out
                  rw [show kk - i = (kk - 1 - i) + 1 by omega] at this
                  rw [hk1]
                  exact this
                have wk : IntKind.i64.wrap ((kk : Int) - 1) = (k1 : Int) := by rw [IntKind.wrap_i64]; omega
                have hk1l : k1 < d.size := by omega
                have hkl : kk < d.size := by omega
                have HK1 : Hid (k1 = kk - 1) := hk1
                clear heq hk1
                have ea3x : ((kk : Int)).toNat = kk := by omega
                have pa3x : (0 : Int) ≤ (kk : Int) := by omega
                have ba3x : (kk : Int) < (d.size : Int) := by omega
                have ra3x : IntKind.i64.wrap ((kk : Int)) = (kk : Int) := by rw [IntKind.wrap_i64]; omega
                have ea3y : ((k1 : Int)).toNat = k1 := by omega
                have pa3y : (0 : Int) ≤ (k1 : Int) := by omega
                have ba3y : (k1 : Int) < (d.size : Int) := by omega
                have ra3y : IntKind.i64.wrap ((k1 : Int)) = (k1 : Int) := by rw [IntKind.wrap_i64]; omega
                have S2 : Aside (SWK enc k w0 blk off (swp dk kk k1) ((wr.drew.setCells blk (off + kk * k) (enc dk[k1]!)).setCells blk (off + k1 * k) (enc dk[kk]!))) := S1.out.swapped R kk k1 (by omega) (by omega)
                have l3a := S1.out.ld1 R (by omega) P kk (by omega)
                have l3b := S1.out.ld1 R (by omega) P k1 (by omega)
                have s3a := S1.out.st1 R (by omega) P kk (by omega) dk[k1]!
                have s3b := S1.out.st2 R (by omega) P kk k1 (by omega) (by omega) dk[k1]! dk[kk]!
                have n3a : (enc dk[kk]!).length = k := R.hk _
                have n3b : (enc dk[k1]!).length = k := R.hk _
                generalize enc dk[kk]! = cI3 at S2 l3a s3b n3a
                generalize enc dk[k1]! = cJ3 at S2 l3b s3a s3b n3b
                clear S1
                go_wp2_with fail
                go_big_region_o
                clear l3a l3b s3a s3b
                generalize (wr.drew.setCells blk (off + kk * k) cJ3).setCells blk (off + k1 * k) cI3 = w3 at S2 ⊢
                clear n3a n3b ea3x pa3x ba3x ra3x ea3y pa3y ba3y ra3y
                go_wp2
                go_roundg (k1 - i)
                case measure => have hk1 := HK1.out; omega
                case rel => have hk1 := HK1.out; exact ⟨k1, swp dk kk k1, by first | rfl | (rw [wk]) | go_num, by omega, by omega, Nat.le_refl _, by rw [size_swp]; exact hds, S2, heq2⟩
              · have hk2 : kk = i := by omega
                have hlz : decide ((kk : Int) > (i : Int)) = false := by rw [decide_eq_false_iff_not]; omega
                go_wp2
                first | go_end0 | (refine bodyPost_ret (results_none rfl _ _ _) rfl ?_)
                refine ⟨rfl, _, HM.out, ?_⟩
                have := heq.out
                rw [hk2, Nat.sub_self] at this
                rw [← this]
                exact S1.out
      · obtain ⟨c1, hc1⟩ : ∃ c1 : Nat, c1 = b - m := ⟨_, rfl⟩
        have v1 : IntKind.i64.wrap ((b : Int) - (m : Int)) = (c1 : Int) := by rw [IntKind.wrap_i64]; omega
        have q1 : ((c1 : Int) == 1) = false := by rw [beq_eq_false_iff_ne]; omega
        clear hc1
        obtain ⟨mid, hmid⟩ : ∃ mid, mid = (a + b) / 2 := ⟨_, rfl⟩
        have u1 : IntKind.i64.wrap ((a : Int) + (b : Int)) = (a : Int) + (b : Int) := by rw [IntKind.wrap_i64]; omega
        have u2 : ((a : Int) + (b : Int)) / 2 = (mid : Int) := by omega
        obtain ⟨n, hn⟩ : ∃ n, n = mid + m := ⟨_, rfl⟩
        have u3 : IntKind.i64.wrap ((mid : Int) + (m : Int)) = (n : Int) := by rw [IntKind.wrap_i64]; omega
        have u4 : IntKind.i64.wrap ((n : Int) - (b : Int)) = (n : Int) - (b : Int) := by rw [IntKind.wrap_i64]; omega
        have HMID : Hid (mid = (a + b) / 2) := hmid
        have HN : Hid (n = mid + m) := hn
        clear hmid hn
        go_upto_if 140 with fail
        have hmid := HMID.out
        have hn := HN.out
        clear u2
        clear q0 q1 v0 v1 u1 u3
        go_cut [20, 21] (fun s20 s21 wc => ∃ (st0 r0 : Nat), s20 = .int .i64 st0 ∧ s21 = .int .i64 r0 ∧ a ≤ st0 ∧ st0 ≤ r0 ∧ r0 ≤ m ∧ r0 ≤ mid ∧ r0 + m ≤ n ∧ n ≤ b + st0 ∧ (st0 = a ∨ n = b + st0) ∧ (r0 = m ∨ n = m + r0) ∧ Aside (SWK enc k w0 blk off d wc))
        case first => as_aux_lemma =>
          clear hmid hn
          by_cases hmm : mid < m
          · have hg : decide ((m : Int) > (mid : Int)) = true := by rw [decide_eq_true_eq]; omega
            go_wp2_with fail
            have hmid := HMID.out
            have hn := HN.out
            go_meet
            case rel => exact ⟨n - b, mid, by first | rfl | go_num | (congr 1; omega), rfl, by omega, by omega, by omega, by omega, by omega, by omega, by omega, by omega, S0⟩
          · have hg : decide ((m : Int) > (mid : Int)) = false := by rw [decide_eq_false_iff_not]; omega
            go_wp2_with fail
            have hmid := HMID.out
            have hn := HN.out
            go_meet
            case rel => exact ⟨a, m, rfl, rfl, by omega, by omega, by omega, by omega, by omega, by omega, by omega, by omega, S0⟩
        case rest => as_aux_lemma =>
          obtain ⟨st0, r0, rfl, rfl, c1, c2, c3, c4, c5, c6, c7, c8, S1⟩ := hcut
          clear S0 u4
          obtain ⟨p, hp⟩ : ∃ p, p = n - 1 := ⟨_, rfl⟩
          have u5 : IntKind.i64.wrap ((n : Int) - 1) = (p : Int) := by rw [IntKind.wrap_i64]; omega
          have HP : Hid (p = n - 1) := hp
          clear hmid hn hp
          go_wp2_with fail
          clear u5
          go_loopg [20, 21] (r0 - st0) (fun kx s20 s21 wr => ∃ (i j : Nat), s20 = .int .i64 i ∧ s21 = .int .i64 j ∧ st0 ≤ i ∧ i ≤ j ∧ j ≤ r0 ∧ j - i ≤ kx ∧ Aside (SWK enc k w0 blk off d wr) ∧ Hid (i = st0 ∨ key d[i - 1]! ≤ key d[p - (i - 1)]!) ∧ Hid (j = r0 ∨ key d[p - j]! < key d[j]!))
          case atStart => exact ⟨st0, r0, rfl, rfl, Nat.le_refl _, c2, Nat.le_refl _, Nat.le_refl _, S1, .inl rfl, .inl rfl⟩
          case round =>
            clear S1
            obtain ⟨i, j, rfl, rfl, hai, hij, hjb, hkx, S1, HL, HR⟩ := hrel
            have hmid := HMID.out
            have hn := HN.out
            have hp := HP.out
            by_cases hlt : i < j
            · obtain ⟨h, hh⟩ : ∃ h, h = (i + j) / 2 := ⟨_, rfl⟩
              have u1 : IntKind.i64.wrap ((i : Int) + (j : Int)) = (i : Int) + (j : Int) := by rw [IntKind.wrap_i64]; omega
              have u2 : ((i : Int) + (j : Int)) / 2 = (h : Int) := by omega
              have hih : i ≤ h := by omega
              have hhj : h < j := by omega
              have hltz : (i : Int) < (j : Int) := by omega
              obtain ⟨q, hq⟩ : ∃ q, q = p - h := ⟨_, rfl⟩
              have u3 : IntKind.i64.wrap ((p : Int) - (h : Int)) = (q : Int) := by rw [IntKind.wrap_i64]; omega
              have hql : q < d.size := by omega
              clear hh hmid hn hp
              by_cases hk1 : key d[q]! < key d[h]!
              · have HR2 : Hid (h = r0 ∨ key d[p - h]! < key d[h]!) := .inr (by rw [← hq]; exact hk1)
                clear HR hq
                have ea1x : ((q : Int)).toNat = q := by omega
                have pa1x : (0 : Int) ≤ (q : Int) := by omega
                have ba1x : (q : Int) < (d.size : Int) := by omega
                have ra1x : IntKind.i64.wrap ((q : Int)) = (q : Int) := by rw [IntKind.wrap_i64]; omega
                have ea1y : ((h : Int)).toNat = h := by omega
                have pa1y : (0 : Int) ≤ (h : Int) := by omega
                have ba1y : (h : Int) < (d.size : Int) := by omega
                have ra1y : IntKind.i64.wrap ((h : Int)) = (h : Int) := by rw [IntKind.wrap_i64]; omega
                obtain ⟨x1, hx1⟩ : ∃ x, x = d[q]! := ⟨_, rfl⟩
                obtain ⟨y1, hy1⟩ : ∃ x, x = d[h]! := ⟨_, rfl⟩
                have l1a := S1.out.ld R (by omega) P q (by omega)
                have l1b := S1.out.ld R (by omega) P h (by omega)
                rw [← hx1] at l1a
                rw [← hy1] at l1b
                have hc1 := S1.out.cmp HC.out (by omega) x1 y1
                have hv1 : cf x1 y1 < 0 := by rw [hx1, hy1]; exact (HLS.out _ _).2 hk1
                have hd1 : decide (cf x1 y1 < 0) = true := decide_eq_true hv1
                clear hx1 hy1 hv1
                go_wp2_with fail
                go_quiet_grown (first | (go_at_fn g; refine Calls.grown_of (hc1 _ _)))
                have S2 : Aside (SWK enc k w0 blk off d (grow (wr.drewN nq) osq)) := S1.out.grown nq osq
                clear l1a l1b hc1 hd1 S1 ea1x pa1x ba1x ra1x ea1y pa1y ba1y ra1y
                generalize grow (wr.drewN nq) osq = w1 at S2 ⊢
                clear nq osq
                go_wp2
                clear hk1 u1 u2 u3
                go_roundg (h - i)
                case measure => omega
                case rel => exact ⟨i, h, rfl, by go_num, hai, hih, by omega, Nat.le_refl _, S2, HL, HR2⟩
              · have HL2 : Hid (h + 1 = st0 ∨ key d[h + 1 - 1]! ≤ key d[p - (h + 1 - 1)]!) := .inr (by rw [Nat.add_sub_cancel, ← hq]; omega)
                clear HL hq
                have ea1x : ((q : Int)).toNat = q := by omega
                have pa1x : (0 : Int) ≤ (q : Int) := by omega
                have ba1x : (q : Int) < (d.size : Int) := by omega
                have ra1x : IntKind.i64.wrap ((q : Int)) = (q : Int) := by rw [IntKind.wrap_i64]; omega
                have ea1y : ((h : Int)).toNat = h := by omega
                have pa1y : (0 : Int) ≤ (h : Int) := by omega
                have ba1y : (h : Int) < (d.size : Int) := by omega
                have ra1y : IntKind.i64.wrap ((h : Int)) = (h : Int) := by rw [IntKind.wrap_i64]; omega
                obtain ⟨x1, hx1⟩ : ∃ x, x = d[q]! := ⟨_, rfl⟩
                obtain ⟨y1, hy1⟩ : ∃ x, x = d[h]! := ⟨_, rfl⟩
                have l1a := S1.out.ld R (by omega) P q (by omega)
                have l1b := S1.out.ld R (by omega) P h (by omega)
                rw [← hx1] at l1a
                rw [← hy1] at l1b
                have hc1 := S1.out.cmp HC.out (by omega) x1 y1
                have hv1 : ¬ cf x1 y1 < 0 := by rw [hx1, hy1]; exact fun hh => hk1 ((HLS.out _ _).1 hh)
                have hd1 : decide (cf x1 y1 < 0) = false := decide_eq_false hv1
                clear hx1 hy1 hv1
                go_wp2_with fail
                go_quiet_grown (first | (go_at_fn g; refine Calls.grown_of (hc1 _ _)))
                have S2 : Aside (SWK enc k w0 blk off d (grow (wr.drewN nq) osq)) := S1.out.grown nq osq
                clear l1a l1b hc1 hd1 S1 ea1x pa1x ba1x ra1x ea1y pa1y ba1y ra1y
                generalize grow (wr.drewN nq) osq = w1 at S2 ⊢
                clear nq osq
                go_wp2
                clear hk1 u1 u2 u3
                go_roundg (j - (h + 1))
                case measure => omega
                case rel => exact ⟨h + 1, j, by go_num, rfl, by omega, by omega, hjb, Nat.le_refl _, S2, HL2, HR⟩
            · as_aux_lemma =>
              obtain rfl : i = j := by omega
              obtain ⟨e, he⟩ : ∃ e, e = n - i := ⟨_, rfl⟩
              have u6 : IntKind.i64.wrap ((n : Int) - (i : Int)) = (e : Int) := by rw [IntKind.wrap_i64]; omega
              have hBA : Hid (i < m → m < e → key d[e - 1]! < key d[i]!) := fun g1 g2 => by
                rcases HR.out with h0 | h0
                · omega
                · rw [show e - 1 = p - i by omega]; exact h0
              have hAB : Hid (a < i → e < b → key d[i - 1]! ≤ key d[e]!) := fun g1 g2 => by
                rcases HL.out with h0 | h0
                · omega
                · rw [show p - (i - 1) = e by omega] at h0
                  omega
              clear HL HR hkx
              have g1 : i ≤ m := by omega
              have g2 : m ≤ e := by omega
              have g3 : e ≤ b := by omega
              have g4 : i ≤ mid := by omega
              have g5 : a ≤ i := by omega
              have g6 : i + e = mid + m := by omega
              have g7 : mid < b := by omega
              have g8 : a < mid := by omega
              have g9 : mid ≤ e := by omega
              clear c1 c2 c3 c4 c5 c6 c7 c8 hjb hai hij hlt hp he hn hmid HP HN HMID
              -- rotate
              go_upto_region 39 with fail
              clear u6
              obtain ⟨b1, hb1⟩ : ∃ b1, b1 = (decide (i < m) && decide (m < e)) := ⟨_, rfl⟩
              go_cut [185] (fun s wc => s = .bool b1 ∧ wc = wr)
              case first => as_aux_lemma =>
                by_cases k1 : i < m
                · have t1 : decide ((i : Int) < (m : Int)) = true := by rw [decide_eq_true_eq]; omega
                  by_cases k2 : m < e
                  · have t2 : decide ((m : Int) < (e : Int)) = true := by rw [decide_eq_true_eq]; omega
                    have hb : b1 = true := by rw [hb1, decide_eq_true k1, decide_eq_true k2]; rfl
                    clear hb1
                    go_wp2_with fail
                    go_meet
                    case rel => exact ⟨by rw [hb], rfl⟩
                  · have t2 : decide ((m : Int) < (e : Int)) = false := by rw [decide_eq_false_iff_not]; omega
                    have hb : b1 = false := by rw [hb1, decide_eq_true k1, decide_eq_false k2]; rfl
                    clear hb1
                    go_wp2_with fail
                    go_meet
                    case rel => exact ⟨by rw [hb], rfl⟩
                · have t1 : decide ((i : Int) < (m : Int)) = false := by rw [decide_eq_false_iff_not]; omega
                  have hb : b1 = false := by rw [hb1, decide_eq_false k1]; rfl
                  clear hb1
                  go_wp2_with fail
                  go_meet
                  case rel => exact ⟨by rw [hb], rfl⟩
              case rest => as_aux_lemma =>
                obtain ⟨rfl, rfl⟩ := hcut
                go_upto_if 185 with fail
                go_cut [] (fun wc => ∃ d1, RotSaid i m e d d1 ∧ Aside (SWK enc k w0 blk off d1 wc))
                case first => as_aux_lemma =>
                  cases b1 with
                  | true =>
                    obtain ⟨k1, k2⟩ : i < m ∧ m < e := by simpa using hb1.symm
                    have hc := rotate_walk (g := g) (cb := cb) (cap := cap) L R i m e d wc hs S1.out k1 k2 (by omega) (by omega)
                    clear hb1
                    go_wp2_with (go_at_fn 124; refine hc.mono ?_; rintro e_ w1 ⟨rfl, d1, hR1, S2⟩)
                    go_meet
                    case rel => exact ⟨d1, hR1, S2⟩
                  | false =>
                    have k1 : m = i ∨ m = e := by
                      have h0 : ¬ (i < m ∧ m < e) := fun h0 => by
                        rw [decide_eq_true h0.1, decide_eq_true h0.2] at hb1
                        cases hb1
                      omega
                    clear hb1
                    go_wp2_with fail
                    go_meet
                    case rel => exact ⟨d, rot_none k1, S1⟩
                case rest => as_aux_lemma =>
                  obtain ⟨d1, hR1, S2⟩ := hcut
                  have hd1 : d1.size = d.size := hR1.1
                  have HR1 : Hid (RotSaid i m e d d1) := hR1
                  clear hR1 S1 hb1 b1
                  -- the left half
                  go_upto_region 41 with fail
                  obtain ⟨b1, hb1⟩ : ∃ b1, b1 = (decide (a < i) && decide (i < mid)) := ⟨_, rfl⟩
                  go_cut [199] (fun s wd => s = .bool b1 ∧ wd = wc)
                  case first => as_aux_lemma =>
                    by_cases k1 : a < i
                    · have t1 : decide ((a : Int) < (i : Int)) = true := by rw [decide_eq_true_eq]; omega
                      by_cases k2 : i < mid
                      · have t2 : decide ((i : Int) < (mid : Int)) = true := by rw [decide_eq_true_eq]; omega
                        have hb : b1 = true := by rw [hb1, decide_eq_true k1, decide_eq_true k2]; rfl
                        clear hb1
                        go_wp2_with fail
                        go_meet
                        case rel => exact ⟨by rw [hb], rfl⟩
                      · have t2 : decide ((i : Int) < (mid : Int)) = false := by rw [decide_eq_false_iff_not]; omega
                        have hb : b1 = false := by rw [hb1, decide_eq_true k1, decide_eq_false k2]; rfl
                        clear hb1
                        go_wp2_with fail
                        go_meet
                        case rel => exact ⟨by rw [hb], rfl⟩
                    · have t1 : decide ((a : Int) < (i : Int)) = false := by rw [decide_eq_false_iff_not]; omega
                      have hb : b1 = false := by rw [hb1, decide_eq_false k1]; rfl
                      clear hb1
                      go_wp2_with fail
                      go_meet
                      case rel => exact ⟨by rw [hb], rfl⟩
                  case rest => as_aux_lemma =>
                    obtain ⟨rfl, rfl⟩ := hcut
                    go_upto_if 199 with fail
                    go_cut [] (fun we => ∃ d2, MergeSaid key a i mid d1 d2 ∧ Aside (SWK enc k w0 blk off d2 we))
                    case first => as_aux_lemma =>
                      cases b1 with
                      | true =>
                        obtain ⟨k1, k2⟩ : a < i ∧ i < mid := by simpa using hb1.symm
                        have hc := IH.out a i mid d1 wc (by omega) (by omega) S2.out k1 k2 (by omega) (by omega)
                        rw [hd1] at hc
                        clear hb1
                        go_wp2_with (go_at_fn 104; refine hc.mono ?_; rintro e_ w1 ⟨rfl, d2, hM1, S3⟩)
                        go_meet
                        case rel => exact ⟨d2, hM1, S3⟩
                      | false =>
                        have k1 : i = a ∨ i = mid := by
                          have h0 : ¬ (a < i ∧ i < mid) := fun h0 => by
                            rw [decide_eq_true h0.1, decide_eq_true h0.2] at hb1
                            cases hb1
                          omega
                        clear hb1
                        go_wp2_with fail
                        go_meet
                        case rel => exact ⟨d1, merge_none k1, S2⟩
                    case rest => as_aux_lemma =>
                      obtain ⟨d2, hM1, S3⟩ := hcut
                      have hd2 : d2.size = d.size := hM1.1.trans hd1
                      have HM1 : Hid (MergeSaid key a i mid d1 d2) := hM1
                      clear hM1 S2 hb1 b1
                      -- the right half
                      go_upto_region 43 with fail
                      obtain ⟨b1, hb1⟩ : ∃ b1, b1 = (decide (mid < e) && decide (e < b)) := ⟨_, rfl⟩
                      go_cut [213] (fun s wf => s = .bool b1 ∧ wf = wc)
                      case first => as_aux_lemma =>
                        by_cases k1 : mid < e
                        · have t1 : decide ((mid : Int) < (e : Int)) = true := by rw [decide_eq_true_eq]; omega
                          by_cases k2 : e < b
                          · have t2 : decide ((e : Int) < (b : Int)) = true := by rw [decide_eq_true_eq]; omega
                            have hb : b1 = true := by rw [hb1, decide_eq_true k1, decide_eq_true k2]; rfl
                            clear hb1
                            go_wp2_with fail
                            go_meet
                            case rel => exact ⟨by rw [hb], rfl⟩
                          · have t2 : decide ((e : Int) < (b : Int)) = false := by rw [decide_eq_false_iff_not]; omega
                            have hb : b1 = false := by rw [hb1, decide_eq_true k1, decide_eq_false k2]; rfl
                            clear hb1
                            go_wp2_with fail
                            go_meet
                            case rel => exact ⟨by rw [hb], rfl⟩
                        · have t1 : decide ((mid : Int) < (e : Int)) = false := by rw [decide_eq_false_iff_not]; omega
                          have hb : b1 = false := by rw [hb1, decide_eq_false k1]; rfl
                          clear hb1
                          go_wp2_with fail
                          go_meet
                          case rel => exact ⟨by rw [hb], rfl⟩
                      case rest => as_aux_lemma =>
                        obtain ⟨rfl, rfl⟩ := hcut
                        cases b1 with
                        | true =>
                          obtain ⟨k1, k2⟩ : mid < e ∧ e < b := by simpa using hb1.symm
                          have hc := IH.out mid e b d2 wc (by omega) (by omega) S3.out k1 k2 (by omega) (by omega)
                          rw [hd2] at hc
                          clear hb1
                          go_wp2_with (go_at_fn 104; refine hc.mono ?_; rintro e_ w1 ⟨rfl, d3, hM2, S4⟩)
                          go_end0
                          exact ⟨rfl, d3, merge_mid g5 g1 g2 g3 g6 hBA.out hAB.out HR1.out HM1.out hM2, S4⟩
                        | false =>
                          have k1 : e = mid ∨ e = b := by
                            have h0 : ¬ (mid < e ∧ e < b) := fun h0 => by
                              rw [decide_eq_true h0.1, decide_eq_true h0.2] at hb1
                              cases hb1
                            omega
                          clear hb1
                          go_wp2_with fail
                          go_end0
                          exact ⟨rfl, d2, merge_mid g5 g1 g2 g3 g6 hBA.out hAB.out HR1.out HM1.out (merge_none k1), S3.out⟩
end
end Go.Proofs.YthoegenipbohmaaGreatDoor

namespace Go.Proofs.YthoegenipbohmaaGreatDoor
open Go.Shelf Go.RowKit Go.Lib Go.Sort Stb
set_option linter.unusedVariables false
set_option linter.unusedSimpArgs false

theorem ins_walk {blk off cap : Nat} {d0 : Array Part} {w0 : World} (R : RowK ptCells 4 w0 blk off d0) (a b : Nat) (d : Array Part) (w : World) (hs : d0.size = d.size) (S : SWK ptCells 4 w0 blk off d w) (hab : a ≤ b) (hb : b ≤ d.size) (hsz : d.size < 1000000000) :
    Calls Tryz.prog 103 #[.slice (some ⟨blk, off, none⟩) d.size cap, .int .i64 a, .int .i64 b, .func (.func 46) #[] #[]] w fun e w' => e = .returned (.tuple #[]) ∧ SWK ptCells 4 w0 blk off (Sort.insertionSort (ltOf ptCmp) d a b) w' :=
  AnyQ.insertionSortCmpFunc_w Tryz.laysIns 4 (fun w => Tryz.isAgg82 w) (fun w => Tryz.sizeOf82 w) ptCells ptCmp 46 #[] blk off cap a b d0 d w0 w pt_enters (pt_lays blk off d0.size w0) R hs S pt_swo hab hb (by omega)
theorem sym_walk {blk off cap : Nat} {d0 : Array Part} {w0 : World} (R : RowK ptCells 4 w0 blk off d0) (a m b : Nat) (d : Array Part) (w : World) (hs : d0.size = d.size) (S : SWK ptCells 4 w0 blk off d w) (h1 : a < m) (h2 : m < b) (h3 : b ≤ d.size) (hsz : d.size < 1000000000) :
    Calls Tryz.prog 104 #[.slice (some ⟨blk, off, none⟩) d.size cap, .int .i64 a, .int .i64 m, .int .i64 b, .func (.func 46) #[] #[]] w fun e w' => e = .returned (.tuple #[]) ∧ ∃ d', MergeSaid ptKey a m b d d' ∧ SWK ptCells 4 w0 blk off d' w' :=
  symMerge_walk stb_ok pt_enters pt_less (pt_lays blk off d0.size w0) R (b - a + 1) a m b d w (by omega) hs S h1 h2 h3 hsz
set_option maxHeartbeats 6400000 in
set_option maxRecDepth 100000 in
theorem stableCmp_walk {blk off cap : Nat} {d : Array Part} {w : World} (R : RowK ptCells 4 w blk off d) (hsz : d.size < 100000000) :
    Calls Tryz.prog 81 #[.slice (some ⟨blk, off, none⟩) d.size cap, .int .i64 d.size, .func (.func 46) #[] #[]] w fun e w' => e = .returned (.tuple #[]) ∧ ∃ d', Stable ptKey d.toList d'.toList ∧ d'.size = d.size ∧ SWK ptCells 4 w blk off d' w' := by
  have S0 := Lib.hid (SWK.start R.hH)
  obtain ⟨n, hn⟩ : ∃ n, n = d.size := ⟨_, rfl⟩
  rw [← hn]
  have HN := Lib.hid hn
  have hn1 : n < 100000000 := by omega
  clear hn hsz
  go_enter Tryz.func81, Tryz.ntmps81
  go_wp2_with fail
  go_loopg [7, 8] (n + 1) (fun kx s7 s8 wr => ∃ (q a b : Nat) (dk : Array Part), s7 = .int .i64 a ∧ s8 = .int .i64 b ∧ Hid (a = 20 * q) ∧ Hid (b = a + 20) ∧ a ≤ n ∧ n + 1 - a ≤ kx ∧ Hid (dk.size = n) ∧ Hid (SWK ptCells 4 w blk off dk wr) ∧ Hid (InBlk ptKey 20 dk 0 a) ∧ Hid (Flt ptKey d.toList dk.toList))
  case atStart => exact ⟨0, 0, 20, d, rfl, rfl, rfl, rfl, by omega, by omega, HN.out.symm, S0, blk_none _ _ _, Flt.refl _⟩
  case round =>
    clear S0
    obtain ⟨q, a, b, dk, rfl, rfl, HQ, HBA, han, hkx, HS, S1, HI, HF⟩ := hrel
    have hlt : ∀ x y, ltOf ptCmp x y = true ↔ ptKey x < ptKey y := pt_lt
    have HLT := Lib.hid hlt
    clear hlt
    by_cases hbn : b ≤ n
    · have hbz : (b : Int) ≤ (n : Int) := by omega
      have hab : a ≤ b := by have := HBA.out; omega
      have hc := ins_walk (cap := cap) R a b dk wr (by have := HS.out; have := HN.out; omega) S1.out hab (by have := HS.out; omega) (by have := HS.out; omega)
      rw [HS.out] at hc
      have HF2 := Lib.hid (insertion_flt (key := ptKey) (lt := ltOf ptCmp) (fun x y h => (HLT.out x y).1 h) a b dk (by have := HS.out; omega))
      have HI2 := Lib.hid (blk_ins (bs := 20) pt_swo HLT.out (by decide) HQ.out hab (by have := HBA.out; omega) (by have := HS.out; omega) HI.out)
      obtain ⟨b2, hb2⟩ : ∃ b2, b2 = b + 20 := ⟨_, rfl⟩
      have e1 : IntKind.i64.wrap ((b : Int) + 20) = (b2 : Int) := by rw [IntKind.wrap_i64]; omega
      have HB2 := Lib.hid hb2
      clear hb2
      go_wp2_with fail
      refine hc.mono ?_
      rintro e w1 ⟨rfl, hs1⟩
      have S2 := Lib.hid hs1
      clear hs1 hc
      go_wp2_with fail
      go_roundg (n + 1 - b)
      case measure => have := HBA.out; omega
      case rel => exact ⟨q + 1, b, b2, _, rfl, by first | rfl | (rw [e1]), (show b = 20 * (q + 1) by rw [HBA.out, HQ.out]; omega), HB2, hbn, Nat.le_refl _, HF2.out.2.trans HS.out, S2, HI2, HF.out.trans HF2.out.1⟩
    · have hbz : ¬ (b : Int) ≤ (n : Int) := by omega
      have hc := ins_walk (cap := cap) R a n dk wr (by have := HS.out; have := HN.out; omega) S1.out han (by have := HS.out; omega) (by have := HS.out; omega)
      rw [HS.out] at hc
      have HF2 := Lib.hid (insertion_flt (key := ptKey) (lt := ltOf ptCmp) (fun x y h => (HLT.out x y).1 h) a n dk (by have := HS.out; omega))
      have HI2 := Lib.hid (blk_ins (bs := 20) pt_swo HLT.out (by decide) HQ.out han (by have := HBA.out; omega) (by have := HS.out; omega) HI.out)
      go_wp2_with fail
      refine hc.mono ?_
      rintro e w1 ⟨rfl, hs1⟩
      have S2 := Lib.hid hs1
      have HF3 := Lib.hid (HF.out.trans HF2.out.1)
      have HS3 := Lib.hid (HF2.out.2.trans HS.out)
      clear hs1 hc HF HF2 HI HS S1 HQ HBA hbz hbn han
      generalize Sort.insertionSort (ltOf ptCmp) dk a n = d1 at *
      go_wp2_with fail
      go_loopg [6] (n + 1) (fun kx s6 wr => ∃ (bs : Nat) (dk : Array Part), s6 = .int .i64 bs ∧ 0 < bs ∧ bs ≤ 2 * n + 20 ∧ n + 1 - bs ≤ kx ∧ Hid (dk.size = n) ∧ Hid (SWK ptCells 4 w blk off dk wr) ∧ Hid (InBlk ptKey bs dk 0 n) ∧ Hid (Flt ptKey d.toList dk.toList))
      case atStart => exact ⟨20, d1, rfl, by omega, by omega, by omega, HS3, S2, HI2, HF3⟩
      case round =>
        clear S2 HF3 HS3 HI2
        obtain ⟨bs, dk, rfl, hbs, hbs2, hkx2, HS, S1, HI, HF⟩ := hrel
        by_cases hbn : bs < n
        · have hbz : (bs : Int) < (n : Int) := by omega
          obtain ⟨b2, hb2⟩ : ∃ b2, b2 = 2 * bs := ⟨_, rfl⟩
          have e1 : IntKind.i64.wrap (2 * (bs : Int)) = (b2 : Int) := by rw [IntKind.wrap_i64]; omega
          have e2 : IntKind.i64.wrap ((bs : Int) * 2) = (b2 : Int) := by rw [IntKind.wrap_i64]; omega
          have hb22 : b2 ≤ 2 * n + 20 := by omega
          have hb23 : bs < b2 := by omega
          have HB2 := Lib.hid hb2
          clear hb2
          go_wp2_with fail
          go_loopg [7, 8] (n + 1) (fun kx s7 s8 wx => ∃ (q a b : Nat) (dl : Array Part), s7 = .int .i64 a ∧ s8 = .int .i64 b ∧ Hid (a = b2 * q) ∧ Hid (b = a + b2) ∧ a ≤ n ∧ n + 1 - a ≤ kx ∧ Hid (dl.size = n) ∧ Hid (SWK ptCells 4 w blk off dl wx) ∧ Hid (InBlk ptKey b2 dl 0 a) ∧ Hid (InBlk ptKey bs dl a n) ∧ Hid (Flt ptKey d.toList dl.toList))
          case atStart => exact ⟨0, 0, b2, dk, rfl, by first | rfl | (rw [e1]), rfl, (show b2 = 0 + b2 by omega), by omega, by omega, HS, S1, blk_none _ _ _, HI, HF⟩
          case round =>
            clear S1 HS HI HF
            obtain ⟨q, a, b, dl, rfl, rfl, HQ, HBA, han, hkx3, HS, S1, HI, HJ, HF⟩ := hrel
            obtain ⟨m, hm⟩ : ∃ m, m = a + bs := ⟨_, rfl⟩
            have e3 : IntKind.i64.wrap ((a : Int) + (bs : Int)) = (m : Int) := by rw [IntKind.wrap_i64]; omega
            have HM := Lib.hid hm
            have ham : a < m := by omega
            clear hm
            by_cases hbl : b ≤ n
            · have hblz : (b : Int) ≤ (n : Int) := by omega
              have hmb : m < b := by have := HBA.out; have := HM.out; omega
              have hab : a < b := by omega
              have hc := sym_walk (cap := cap) R a m b dl wr (by have := HS.out; have := HN.out; omega) S1.out ham hmb (by have := HS.out; omega) (by have := HS.out; omega)
              rw [HS.out] at hc
              obtain ⟨b3, hb3⟩ : ∃ b3, b3 = b + b2 := ⟨_, rfl⟩
              have e4 : IntKind.i64.wrap ((b : Int) + (b2 : Int)) = (b3 : Int) := by rw [IntKind.wrap_i64]; omega
              have HB3 := Lib.hid hb3
              clear hb3
              go_wp2_with fail
              refine hc.mono ?_
              rintro e w1 ⟨rfl, d2, hmg, hs1⟩
              have S2 := Lib.hid hs1
              have HG := Lib.hid (blk_merge (bs := bs) (q := q) (n := n) hbs (by rw [← HB2.out]; exact HQ.out) HM.out (Nat.le_of_lt hmb) (by rw [← HB2.out, HBA.out]; exact Nat.le_refl _) hbl HS.out.symm (by rw [← HB2.out]; exact HI.out) HJ.out hmg)
              have HS2 := Lib.hid (show d2.size = n from hmg.1.trans HS.out)
              clear hs1 hc hmg
              go_wp2_with fail
              go_roundg (n + 1 - b)
              case measure => omega
              case rel => exact ⟨q + 1, b, b3, d2, rfl, by first | rfl | (rw [e4]), (show b = b2 * (q + 1) by rw [Nat.mul_succ, ← HQ.out]; exact HBA.out), HB3, hbl, Nat.le_refl _, HS2, S2, (show InBlk ptKey b2 d2 0 b by rw [HB2.out]; exact HG.out.1), HG.out.2.1, HF.out.trans HG.out.2.2⟩
            · have hblz : ¬ (b : Int) ≤ (n : Int) := by omega
              by_cases hmn : m < n
              · have hmz : (m : Int) < (n : Int) := by omega
                have hc := sym_walk (cap := cap) R a m n dl wr (by have := HS.out; have := HN.out; omega) S1.out ham hmn (by have := HS.out; omega) (by have := HS.out; omega)
                rw [HS.out] at hc
                go_wp2_with fail
                refine hc.mono ?_
                rintro e w1 ⟨rfl, d2, hmg, hs1⟩
                have S2 := Lib.hid hs1
                have HG := Lib.hid (blk_merge (bs := bs) (q := q) (n := n) hbs (by rw [← HB2.out]; exact HQ.out) HM.out (Nat.le_of_lt hmn) (by have := HBA.out; have := HB2.out; omega) (Nat.le_refl _) HS.out.symm (by rw [← HB2.out]; exact HI.out) HJ.out hmg)
                have HS2 := Lib.hid (show d2.size = n from hmg.1.trans HS.out)
                clear hs1 hc hmg
                go_wp2_with fail
                go_roundg (n + 1 - b2)
                case measure => omega
                case rel => exact ⟨b2, d2, by first | rfl | (rw [e2]), by omega, hb22, Nat.le_refl _, HS2, S2, (show InBlk ptKey b2 d2 0 n by rw [HB2.out]; exact HG.out.1), HF.out.trans HG.out.2.2⟩
              · have hmz : ¬ (m : Int) < (n : Int) := by omega
                have HG := Lib.hid (blk_tail (bs := bs) (q := q) (n := n) (key := ptKey) hbs (by rw [← HB2.out]; exact HQ.out) (by have := HM.out; omega) (by rw [← HB2.out]; exact HI.out) HJ.out)
                go_wp2_with fail
                go_roundg (n + 1 - b2)
                case measure => omega
                case rel => exact ⟨b2, dl, by first | rfl | (rw [e2]), by omega, hb22, Nat.le_refl _, HS, S1, (show InBlk ptKey b2 dl 0 n by rw [HB2.out]; exact HG.out), HF⟩
        · have hbz : ¬ (bs : Int) < (n : Int) := by omega
          go_wp2_with fail
          go_end0
          exact ⟨rfl, dk, ⟨blk_all (by omega) (by have := HS.out; omega) HI.out, HF.out⟩, by have := HS.out; have := HN.out; omega, S1.out⟩
theorem sortStable_walk {blk off cap : Nat} {d : Array Part} {w : World} (hH : HoldsK ptCells 4 w blk off d) (hblk : blk < w.heap.size) (hsz : d.size < 100000000) :
    Calls Tryz.prog 45 #[.slice (some ⟨blk, off, none⟩) d.size cap, .func (.func 46) #[] #[]] w fun e w' => e = .returned (.tuple #[]) ∧ ∃ d', Stable ptKey d.toList d'.toList ∧ d'.size = d.size ∧ SWK ptCells 4 w blk off d' w' := by
  have hc := stableCmp_walk (cap := cap) ⟨pt_len, pt_one, hH, hblk⟩ hsz
  clear hH hblk
  go_enter Tryz.func45, Tryz.ntmps45
  go_wp2_with fail
  refine hc.mono ?_
  rintro e w1 ⟨rfl, d', h1, h2, h3⟩
  have HX := Lib.hid (And.intro h1 (And.intro h2 h3))
  clear h1 h2 h3 hc
  go_wp2_with fail
  go_end0
  exact ⟨rfl, d', HX.out⟩
end Go.Proofs.YthoegenipbohmaaGreatDoor
