/- rubricatorlaw12.ItemsSpan answers true. -/
import Derived.Test.YthoegenipbohmaaGreatDoorItmU
namespace Go.Proofs.YthoegenipbohmaaGreatDoor
open Go.RowKit Utf Itm
set_option linter.unusedVariables false
set_option linter.unusedSimpArgs false
theorem subj_mem (canon : Bool) (bs : List Nat) (hb : ∀ b ∈ bs, b ≤ 255) : ∀ x ∈ subj canon bs, 0 ≤ x.s ∧ x.s < x.e ∧ x.e ≤ bs.length := by
  intro x hx
  unfold subj at hx
  split at hx
  · obtain ⟨y, hy, h1, h2, _⟩ := nfd_mem _ x hx
    have := dec_mem bs 0 hb y hy
    omega
  · have := dec_mem bs 0 hb x hx
    omega
theorem BytesAt.byte {w : World} {v : Value} {bs : List Nat} (h : BytesAt w v bs) : ∀ b ∈ bs, b ≤ 255 := by
  obtain ⟨_, _, _, _, _, _, h4, _⟩ := h
  exact h4
theorem eql_span (a b : Int) (W : World) : (binOp .eql 68 (.agg #[.int .i64 a, .int .i64 b]) (.agg #[.int .i64 a, .int .i64 b])).run Tryz.prog W = .ok (.bool true) W := by
  go_simp
set_option maxRecDepth 100000 in
theorem itemsSpan_walk {v0 : Value} {bs : List Nat} (w : World) (h : BytesAt w v0 bs) (canon : Bool) (f t : Int) (hf : (Lit.int .i64 f).wf = true) (ht : (Lit.int .i64 t).wf = true) (hE : Env w) (hT : EnvT w) (hH : Hang w) : Calls Tryz.prog 10 #[v0, .bool canon, .int .i64 f, .int .i64 t] w fun e w' => e = .returned (.bool true) ∧ Below w.heap.size w w' := by
  have HBo := Lib.hid (both_walk h canon hE hT hH)
  have hsl := subj_len canon (bs.take 300) (take300 bs)
  have hcl := take300 bs
  have HM := Lib.hid (subj_mem canon (bs.take 300) (fun b hb => h.byte b (List.mem_of_mem_take hb)))
  clear h hE hT hH
  go_enter Tryz.func10, Tryz.ntmps10
  go_wp2_with fail
  refine HBo.out.mono ?_
  rintro e w1 hbo
  obtain ⟨p, q, B, B', rfl, hx, hq, hb1⟩ := hbo.get
  generalize subj canon (bs.take 300) = L at *
  generalize bs.take 300 = cs at *
  have HX := Lib.hid hx
  have HQ := Lib.hid hq
  have HB := Lib.hid hb1
  clear hbo hx hq hb1 HBo
  go_wp2_with fail
  refine (tspan_walk HX.out (by omega) (by omega) f t (fun x hx => by have := HM.out x hx; omega)).mono ?_
  rintro e w2 ⟨rfl, hb2⟩
  replace HQ := Lib.hid (HQ.out.below hb2)
  replace HB := Lib.hid (HB.out.trans (hb2.mono HB.out.size))
  clear hb2 HX HM
  generalize hsp : spanL cs.length L f t = S
  have HS := Lib.hid hsp
  clear hsp
  obtain ⟨s1, s2⟩ := S
  unfold spv
  have qe := fun W => eql_span s1 s2 W
  go_wp2_with fail
  refine (rspan_walk HQ.out (by omega) (by omega) f t).mono ?_
  rintro e w3 ⟨rfl, hb3⟩
  rw [HS.out]
  unfold spv
  replace HB := Lib.hid (HB.out.trans (hb3.mono HB.out.size))
  clear hb3 HQ
  go_wp2_with fail
  go_ret
  exact ⟨rfl, HB.out⟩
end Go.Proofs.YthoegenipbohmaaGreatDoor
