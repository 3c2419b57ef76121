/- append of any slice, nil or not, to a row of one's own. No program stands here. -/
import Derived.Test.YtchkckfadennhaaGreatDoorBase
import Derived.WalkKit
import Derived.Handy
namespace Go.Proofs.YtchkckfadennhaaGreatDoor
open Go.RowKit
set_option linter.unusedVariables false
set_option linter.unusedSimpArgs false
theorem run_append_nil {P : Program} (w : World) (t ty e : TypeId) (i : TypeInfo) (ht : P.underlying t = some (.slice e)) (hi : P.info? e = some i) (A : Option Addr) (n c : Nat) (h : n ≤ c) :
    (Builtin.append_ #[t, t] ty #[.slice A n c, .slice none 0 0]).run P w = .ok (.slice A n c) w := by
  cases A <;> simp [Builtin.append_, run_underlying ht, sizeOf, typeInfo, hi, Builtin.lenOf, Builtin.firstCells, storeCells, h]
/-- append of any slice to a row of one's own. -/
theorem wp_append_more {P : Program} (w : World) {t e : TypeId} {size bytes : Nat} (T : SlT P t e size bytes) {ops : Array Oper} {rest : List Oper} {o : Oper} {a : Act} {Q : Exit → Act → World → Prop} (hgd : o.guard = none) (s x : Operand)
    (ho : o.op = .call { callee := .builtin .append, args := #[s, x], argTypes := #[t, t] })
    (base : Nat) (v : Value) (n : Nat) (xs : List Value) (hs : a.eval s = v) (hown : w.ownsRow base e size v n xs)
    (A : Option Addr) (m c : Nat) (news : List Value) (hx : a.eval x = .slice A m c) (hA : A = none → m = 0 ∧ c = 0) (hl : news.length = m * size) (hnews : ∀ ad, A = some ad → ∀ j u, news[j]? = some u → w.cell? (ad.add j) = some u) (h1 : ∀ u ∈ news, u.oneCell' = true)
    (hbytes : (n + m) * bytes ≤ 140737488355328) (hbase : base ≤ w.heap.size)
    (h : ∀ v' w', w'.ownsRow base e size v' (n + m) (xs ++ news) → w.grownBy w' v.ownBlock → wpList P ops Q rest (a.put o.dst v') w') :
    wpList P ops Q (o :: rest) a w := by
  cases A with
  | some ad => exact wp_append w T hgd s x ho base _ n xs hs hown ad m c news hx hl (hnews ad rfl) h1 hbytes hbase (fun v' w' r1 r2 _ _ => h v' w' r1 r2)
  | none =>
    obtain ⟨rfl, rfl⟩ := hA rfl
    have : news = [] := List.length_eq_zero_iff.1 (by simpa using hl)
    subst this
    have hc : ∃ B k, v = .slice B n k ∧ n ≤ k := by
      rcases hown.2 with ⟨h0, hn0⟩ | ⟨g', cap', cur, hv, hb, hg, hnc, hcm, hcs, ht⟩
      · exact ⟨none, 0, by rw [h0, hn0], by omega⟩
      · exact ⟨_, cap', hv, hnc⟩
    obtain ⟨B, k, rfl, hk⟩ := hc
    obtain ⟨i, hi, _⟩ := Option.map_eq_some_iff.1 T.hi
    have hr := run_append_nil w t o.type e i T.ht hi B n k hk
    have hrun : (execOp a.eval o).run P w = .ok (.value (.slice B n k)) w := by
      unfold execOp
      simp only [ho, resolve, invoke, builtin, Sem.run_bind, Sem.run_pure, Result.andThen_ok, List.map_toArray, List.map_cons, List.map_nil, hs, hx, hr]
    refine wpList_plain hgd fun K hK => ?_
    unfold Oper.wp
    rw [hrun]
    exact hK _ _ (h _ _ (by rw [List.append_nil]; exact hown) ⟨rfl, rfl, rfl, Nat.le_refl _, fun _ _ _ => rfl⟩)
end Go.Proofs.YtchkckfadennhaaGreatDoor
