/- utf.Decode; rubricatorref01: first, Decode. -/
import Derived.Test.YthoegenipbohmaaGreatDoorUtfR
import Derived.Test.YthoegenipbohmaaGreatDoorNormM
namespace Go.Proofs.YthoegenipbohmaaGreatDoor
open Go.RowKit Utf
set_option linter.unusedVariables false
set_option linter.unusedSimpArgs false
theorem bytes_from {w : World} {ad : Addr} {n c q : Nat} {bs : List Nat} (h : BytesAt w (.slice (some ad) n c) bs) (hq : q < n) : ∃ b t, bs.drop q = b :: t ∧ t.length ≤ bs.length ∧ BytesAt w (.slice (some (ad.add q)) (n - q) (c - q)) (b :: t) := by
  have h2 := h.drop (Nat.le_of_lt hq)
  obtain ⟨A', c', e, h1, _⟩ := h
  injection e with e1 e2 e3
  have hne : ¬ c = q := by omega
  unfold sliced at h2
  rw [if_neg hne] at h2
  cases hd : bs.drop q with
  | nil =>
    have := List.length_drop (i := q) (l := bs)
    rw [hd] at this
    simp at this
    omega
  | cons b t =>
    rw [hd] at h2
    refine ⟨b, t, rfl, ?_, ?_⟩
    · have := List.length_drop (i := q) (l := bs)
      rw [hd, List.length_cons] at this
      omega
    · rw [Option.map_some, Nat.mul_one] at h2
      exact h2
set_option maxRecDepth 100000 in
theorem decode_walk (w : World) (v : Value) (bs : List Nat) (h : BytesAt w v bs) (hl : bs.length ≤ 1000000) : Calls Tryz.prog 96 #[v] w (ItemsSaid (dec bs 0) w) := by
  have HA := Lib.hid h
  obtain ⟨A, c, rfl, hnc, hn9, hnone, _⟩ := h
  obtain ⟨n, hn⟩ : ∃ n, n = bs.length := ⟨_, rfl⟩
  rw [← hn] at HA hnc hl hn9 ⊢
  have HNn := Lib.hid hn
  clear hn
  go_enter Tryz.func96, Tryz.ntmps96
  go_wp2_with fail
  go_loopw [3, 4] (fun vo i wr => ∃ (q : Nat) (ps : List It), q ≤ n ∧ i = .int .i64 q ∧ Hid (ItemsAt wr w.heap.size vo ps) ∧ Hid (ps ++ dec (bs.drop q) q = dec bs 0) ∧ ps.length ≤ q ∧ Hid (Below w.heap.size w wr)) (fun _ i _ => n - (intOf i).toNat)
  case atStart => exact ⟨0, [], by omega, rfl, World.ownsRow_nil _ _ _ _, rfl, by simp, Below.refl _ _⟩
  case round =>
    obtain ⟨q, ps, hq, rfl, HO, HD, hpl, HB⟩ := hrel
    by_cases hlt : q < n
    · cases A with
      | none => have := hnone rfl; omega
      | some ad =>
        obtain ⟨b, t, hd, htl, hbt⟩ := bytes_from (HA.out.below HB.out) hlt
        have hne : ¬ c = q := by omega
        have hm : IntKind.i64.wrap ((n : Int) - q) = (n : Int) - q := by rw [IntKind.wrap_i64]; omega
        obtain ⟨r, hr⟩ : ∃ r, r = (rd b t).1 := ⟨_, rfl⟩
        obtain ⟨m, hm2⟩ : ∃ m, m = (rd b t).2 := ⟨_, rfl⟩
        have HBT := Lib.hid (read_walk wr _ b t hbt (by have := HNn.out; omega))
        have hrn := rd_n b t
        have hdc := dec_cons b t q
        unfold ReadSaid at HBT
        rw [← hr, ← hm2] at HBT hdc
        rw [← hm2] at hrn
        have hqm : q + m ≤ n := by
          have h1 : (bs.drop q).length = bs.length - q := List.length_drop
          rw [hd, List.length_cons] at h1
          have := HNn.out
          omega
        have hm1 := hrn.1
        obtain ⟨E, hE⟩ : ∃ E : Int, E = (q : Int) + (m : Int) := ⟨_, rfl⟩
        have w2 : IntKind.i64.wrap ((q : Int) + (m : Int)) = E := by rw [IntKind.wrap_i64, hE]; omega
        have HE := Lib.hid (show E = ((q + m : Nat) : Int) by rw [hE]; omega)
        have HDC := Lib.hid (show (ps ++ [(⟨(r : Nat), (q : Nat), E⟩ : It)]) ++ dec (bs.drop (q + m)) (q + m) = dec bs 0 by
          rw [← HD.out, hd, hdc, HE.out, List.append_assoc, ← hd, List.drop_drop]
          rfl)
        obtain ⟨Ao, co, hvo⟩ := own_slice HO.out
        subst hvo
        clear hbt hd hr hm2 hrn hdc hE htl HD hm
        go_wp2_with fail
        refine HBT.out.mono ?_
        rintro e w1 ⟨⟨ok, rfl⟩, hb1⟩
        replace HB := Lib.hid (HB.out.trans (hb1.mono HB.out.size))
        replace HO := Lib.hid (show w1.ownsRow w.heap.size 25 3 (.slice Ao ps.length co) ps.length (ps.flatMap itCells) from own_below HO.out hb1)
        clear HBT hb1
        go_wp2_with (at_builtin; refine wp_append_lit slItem rfl (.tmp 20) (.tmp 27) rfl w.heap.size (.slice Ao ps.length co) ps.length (ps.flatMap itCells) rfl (by exact HO.out) #[.int .i64 (r : Nat), .int .i64 q, .int .i64 E] rfl rfl (by simp [Value.oneCell']) (by omega) (by exact HB.out.size) ?_; intro v6 w6 hown6 hg6; have HO6 := Lib.hid hown6; have HB6 := Lib.hid (HB.out.grown hg6 HB.out.size (fun k hk => (own_lt HO.out k hk).1)); clear hown6 hg6)
        go_roundw
        case rel => exact ⟨q + m, ps ++ [(⟨(r : Nat), (q : Nat), E⟩ : It)], hqm, by rw [HE.out], (show ItemsAt _ _ _ _ by
          unfold ItemsAt
          rw [List.length_append, List.flatMap_append]
          exact HO6.out), HDC, by rw [List.length_append]; simp; omega, HB6⟩
        case measure => rw [HE.out]; simp [intOf]; omega
    · have hqe : q = n := by omega
      have HF := Lib.hid (show ItemsAt wr w.heap.size _ (dec bs 0) by
        have h1 := HD.out
        have h2 : bs.drop q = [] := List.drop_eq_nil_of_le (by have := HNn.out; omega)
        rw [h2, dec_nil, List.append_nil] at h1
        rw [← h1]
        exact HO.out)
      clear HO HD hqe
      go_wp2_with fail
      go_ret
      exact ⟨_, rfl, HF.out, HB.out⟩
end Go.Proofs.YthoegenipbohmaaGreatDoor
