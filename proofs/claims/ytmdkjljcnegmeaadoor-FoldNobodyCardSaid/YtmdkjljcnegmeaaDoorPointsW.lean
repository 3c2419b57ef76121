/- props.points: code points in a text of ASCII bytes. -/
import Derived.Test.YtmdkjljcnegmeaaDoorLoadW
namespace Go.Proofs.YtmdkjljcnegmeaaDoor
open Go.RowKit
set_option linter.unusedVariables false
set_option linter.unusedSimpArgs false

/-- What the walks ask of the world, another variable of the library's: a table of which bytes are blanks. -/
def EnvT (w : World) : Prop := Lib.TabIs Tryd.prog w "strings.asciiSpace" .u8 Lib.asciiSpaceTab
theorem EnvT.below {w w' : World} (h : EnvT w) (hb : Below w.heap.size w w') : EnvT w' := by
  unfold EnvT Lib.TabIs World.var? at *
  have hg : Tryd.prog.globalNamed "strings.asciiSpace" = some 1 := by kernel_rfl
  rw [hg] at h ⊢
  simp only [Option.bind_some] at h ⊢
  have hl : 1 < w.heap.size := by
    rcases Nat.lt_or_ge 1 w.heap.size with h1 | h1
    · exact h1
    · rw [Array.getElem?_eq_none h1] at h
      cases h
  rw [hb.block _ hl]
  exact h
theorem fieldsGo_mem : ∀ (l cur : List UInt8), ∀ p ∈ Lib.fieldsGo cur l, ∀ b ∈ p, b ∈ cur ∨ b ∈ l
  | [], cur, p, hp, b, hb => by
    unfold Lib.fieldsGo at hp
    split at hp
    · simp at hp
    · simp at hp; subst hp; exact .inl hb
  | x :: l, cur, p, hp, b, hb => by
    unfold Lib.fieldsGo at hp
    split at hp
    · split at hp
      · rcases fieldsGo_mem l _ p hp b hb with h | h
        · simp at h
        · exact .inr (List.mem_cons_of_mem _ h)
      · rcases List.mem_cons.1 hp with rfl | hp
        · exact .inl hb
        · rcases fieldsGo_mem l _ p hp b hb with h | h
          · simp at h
          · exact .inr (List.mem_cons_of_mem _ h)
    · rcases fieldsGo_mem l _ p hp b hb with h | h
      · rcases List.mem_append.1 h with h | h
        · exact .inl h
        · simp at h; exact .inr (by simp [h])
      · exact .inr (List.mem_cons_of_mem _ h)
theorem fieldsGo_len : ∀ (l cur : List UInt8), (Lib.fieldsGo cur l).length ≤ l.length + 1
  | l, cur => by
    rw [Lib.fieldsGo_length]
    have h : ∀ (l : List UInt8) (b : Bool), Lib.cntF b l ≤ l.length := by
      intro l
      induction l with
      | nil => intro b; simp [Lib.cntF]
      | cons x l ih => intro b; unfold Lib.cntF; have := ih (Lib.isSp x); simp; split <;> omega
    have := h l cur.isEmpty
    split <;> omega
namespace Sp
def pts (s : Str) : List Nat := (Lib.fields s).filterMap hex
end Sp
def ints (l : List Nat) : List Value := l.map fun n => .int .i64 ((n : Nat) : Int)
theorem slInt : SlT Tryd.prog 25 3 1 8 := ⟨Tryd.underlying25, by kernel_rfl, by decide, by decide⟩
def PointsSaid (l : List Nat) (w : World) (e : Ending) (w' : World) : Prop := ∃ v, e = .returned v ∧ w'.ownsRow w.heap.size 3 1 v l.length (ints l) ∧ Below w.heap.size w w'
set_option maxRecDepth 100000 in
theorem points_walk (s : ByteArray) (w : World) (hs : s.size < 1000000) (ha : ∀ b ∈ s.data.toList, b.toNat < 128) (hT : EnvT w) :
    Calls Tryd.prog 28 #[.string s] w (PointsSaid (Sp.pts s.data.toList) w) := by
  have hF := Tryd.strings_Fields s w (by omega) (fun j b hj => ha b (List.mem_of_getElem? hj)) hT
  have hlen := fieldsGo_len s.data.toList []
  have hm : ∀ p ∈ Lib.fields s.data.toList, ∀ b ∈ p, b.toNat < 128 := fun p hp b hb => ha b ((fieldsGo_mem _ _ p hp b hb).resolve_left (by simp))
  rw [show Lib.fieldsGo [] s.data.toList = Lib.fields s.data.toList from rfl, blen] at hlen
  unfold Sp.pts
  generalize Lib.fields s.data.toList = ps at *
  have HF := Lib.hid hF
  have Hm := Lib.hid hm
  clear ha hT hm hF
  go_enter Tryd.func28, Tryd.ntmps28
  go_wp2_with fail
  refine HF.out.mono ?_
  rintro e w1 ⟨rfl, hw1⟩
  have hb1 : Below w.heap.size w w1 := by rw [hw1]; exact alloc_below _ _
  have hrow : Blk w1 w.heap.size 9 (ps.map fun l => Value.string ⟨l.toArray⟩).toArray := by rw [hw1]; exact row_new _ _
  have hsz : w.heap.size < w1.heap.size := by rw [hw1, size_new]; omega
  clear hw1 HF
  go_wp2_with fail
  go_loopw [3, 11] (fun v i wr => ∃ k : Nat, k ≤ ps.length ∧ i = .int .i64 k ∧ Hid (wr.ownsRow w1.heap.size 3 1 v ((ps.take k).filterMap Sp.hex).length (ints ((ps.take k).filterMap Sp.hex))) ∧ Hid (Below w1.heap.size w1 wr)) (fun _ i _ => ps.length - (intOf i).toNat)
  case atStart => exact ⟨0, by omega, rfl, (by show _; rw [List.take_zero]; exact World.ownsRow_nil _ _ _ _), Below.refl _ _⟩
  case round =>
    obtain ⟨k, hk, rfl, HR, HB⟩ := hrel
    by_cases hlt : k < ps.length
    · have hc : wr.cell? ⟨w.heap.size, k, none⟩ = some (.string ⟨ps[k].toArray⟩) := (HB.out.cell (p := ⟨_, _, _⟩) hsz).trans ((hrow.cell k).trans (by simp [hlt]))
      have hk1 : ∀ j (h : j < (⟨ps[k].toArray⟩ : ByteArray).size), ((⟨ps[k].toArray⟩ : ByteArray)[j]'h).toNat < 128 := fun j h => Hm.out ps[k] (List.getElem_mem _) _ (by
        have h' : j < ps[k].toArray.size := h
        have : (⟨ps[k].toArray⟩ : ByteArray)[j]'h = ps[k][j]'(by simpa using h') := rfl
        rw [this]
        exact List.getElem_mem _)
      have htk := List.take_succ_eq_append_getElem hlt
      have hfl : ((ps.take k).filterMap Sp.hex).length ≤ k := by
        have := List.length_filterMap_le Sp.hex (ps.take k)
        rw [List.length_take] at this
        omega
      have hsn : (ps.take (k + 1)).filterMap Sp.hex = (ps.take k).filterMap Sp.hex ++ (Sp.hex ps[k]).toList := by
        rw [htk, List.filterMap_append]
        cases h : Sp.hex ps[k] <;> simp [List.filterMap_cons, h]
      have Hsn := Lib.hid hsn
      generalize (ps.take k).filterMap Sp.hex = l at *
      have hh := fun w => hex_walk ⟨ps[k].toArray⟩ w hk1
      have HH := Lib.hid hh
      clear hk1 htk hsn hh
      go_wp2_with fail
      refine (HH.out wr).mono ?_
      rintro e w3 ⟨rfl, hb3⟩
      have HR3 := Lib.hid (own_below HR.out hb3)
      have HB3 := Lib.hid (HB.out.trans (hb3.mono HB.out.size))
      cases hx : Sp.hex ps[k] with
      | none =>
        have hs2 : (ps.take (k + 1)).filterMap Sp.hex = l := by rw [Hsn.out, hx]; simp
        have Hs2 := Lib.hid hs2
        clear hs2 HH HR HB hb3 Hsn hx
        go_wp2_with fail
        go_roundw
        case rel => exact ⟨k + 1, by omega, by go_num, by
          show _
          rw [Hs2.out]
          exact HR3.out, HB3⟩
        case measure => simp [intOf]; omega
      | some n =>
        have hs2 : (ps.take (k + 1)).filterMap Sp.hex = l ++ [n] := by rw [Hsn.out, hx]; simp
        have Hs2 := Lib.hid hs2
        have hbt : (l.length + 1) * 8 ≤ 140737488355328 := by omega
        clear hs2 HH HR HB hb3 Hsn hx
        go_wp2_with (at_builtin; refine wp_append_new slInt rfl (.tmp 21) (.tmp 23) rfl w1.heap.size u3 _ _ rfl (by exact HR3.out) #[.int .i64 n] rfl rfl (by simp [Value.oneCell']) (by exact hbt) (by exact HB3.out.size) ?_; intro v5 w5 hown5 hg5; have HB5 := Lib.hid (HB3.out.grown hg5 HB3.out.size (fun k hk => (own_lt HR3.out k hk).1)); clear hg5)
        go_roundw
        case rel => exact ⟨k + 1, by omega, by go_num, by
          show _
          rw [Hs2.out]
          unfold ints at hown5 ⊢
          rw [List.map_append, List.length_append]
          exact hown5, HB5⟩
        case measure => simp [intOf]; omega
    · obtain rfl : k = ps.length := by omega
      have hfin : PointsSaid (ps.filterMap Sp.hex) w (.returned u3) wr := by
        have h1 := HR.out
        rw [List.take_length] at h1
        exact ⟨u3, rfl, own_base h1 (by omega), hb1.trans (HB.out.mono (by omega))⟩
      clear HR HB
      go_wp2_with fail
      go_ret
      exact hfin
end Go.Proofs.YtmdkjljcnegmeaaDoor
