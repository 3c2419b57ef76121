/- norm.Runes, norm.Is; rubricatorlaw08.awake. -/
import Derived.Test.YtpmbebofinlmmaaGreatDoorNormQ
import Derived.Test.YtpmbebofinlmmaaGreatDoorOpenW
namespace Go.Proofs.YtpmbebofinlmmaaGreatDoor
open Go.RowKit Go.Sort Stb
set_option linter.unusedVariables false
set_option linter.unusedSimpArgs false

/-- What norm asks of the tables. -/
structure Nmd (w : World) (m : Nat) (Φ : Files) : Prop where
  full : ∀ W, Below w.heap.size w W → ∀ r, (Lit.int .i64 r).wf = true → Calls Tryz.prog 30 #[.pointer (some ⟨m + 3, 0, none⟩), .int .i64 r] W (CloneSaid (dall (partsOf Φ.dec) r) W)
  comb : ∀ W, Below w.heap.size w W → ∀ r, Calls Tryz.prog 32 #[.pointer (some ⟨m + 3, 0, none⟩), .int .i64 r] W fun e W' => e = .returned (.int .i64 (combOf Φ r)) ∧ Below W.heap.size W W'
  cat : ∀ W, Below w.heap.size w W → ∃ s : ByteArray, s.toList.isEmpty = false ∧ Calls Tryz.prog 18 #[.pointer (some ⟨m + 3, 0, none⟩), .int .i64 0] W fun e W' => e = .returned (.string s) ∧ Below W.heap.size W W'
  num : CombOk Φ
  two : short2B Φ.dec = true
  ends : endB Φ.dec = true
theorem Nmd.below {w w' : World} {m : Nat} {Φ : Files} (h : Nmd w m Φ) (hb : Below w.heap.size w w') : Nmd w' m Φ :=
  ⟨fun W hW => h.full W (hb.trans (hW.mono hb.size)), fun W hW => h.comb W (hb.trans (hW.mono hb.size)), fun W hW => h.cat W (hb.trans (hW.mono hb.size)), h.num, h.two, h.ends⟩
theorem nmd_files {w : World} {m : Nat} (ht : TabAt w m files) (hH : Hang w) : Nmd w m files where
  full W hW r hr := decf_walk (ht.below hW) (hH.below hW) r hr
  comb W hW r := combining_walk (ht.below hW) files_ok files_comb r
  cat W hW := ⟨⟨(txOf files.cat 0 [67, 110]).toArray⟩, by
    rw [show (⟨(txOf files.cat 0 [67, 110]).toArray⟩ : ByteArray).toList = txOf files.cat 0 [67, 110] from toBl _]
    exact List.isEmpty_eq_false_iff.2 (txOf_ne files_cat 0 (by decide)), category_walk (ht.below hW) files_ok 0⟩
  num := files_comb
  two := files_short2
  ends := dec_end
theorem slIntN : SlT Tryz.prog 42 3 1 8 := ⟨Tryz.underlying42, by kernel_rfl, by decide, by decide⟩
theorem intz_snocN (l : List Int) (x : Int) : intz l ++ [.int .i64 x] = intz (l ++ [x]) := by
  unfold intz
  rw [List.map_append]
  rfl
section
variable {w : World} {m : Nat} {Φ : Files}
set_option maxRecDepth 100000 in
set_option maxHeartbeats 3200000 in
theorem runes_walk (hn : Nmd w m Φ) {v : Value} {zs : List Int} (hz : ListAt w v zs) (hwf : ∀ z ∈ zs, (Lit.int .i64 z).wf = true) (hl : zs.length ≤ 100000) : Calls Tryz.prog 48 #[.pointer (some ⟨m + 3, 0, none⟩), v] w (CloneSaid (runesL Φ zs) w) := by
  have HZ := Lib.hid hz
  obtain ⟨A1, c1, rfl, hn1, _⟩ := hz
  have HI := Lib.hid (fun (W : World) (hb : Below w.heap.size w W) (u : Value) (xs : List It) (hx : ItsAt W u xs) (hxw : ∀ x ∈ xs, (Lit.int .i64 x.r).wf = true) (hxl : xs.length ≤ 100000) => show Calls Tryz.prog 45 #[.pointer (some ⟨m + 3, 0, none⟩), u] W (ItemsSaid (nfd Φ xs) W) from items_walk (hn.below hb).full (hn.below hb).comb (fun r => (comb_range hn.num r).1) hx hxw (by have := (partsL_len hn.two xs).1; unfold partsL at this; omega) (by omega))
  have HLn := Lib.hid (runes_len hn.two zs)
  have HW := Lib.hid hwf
  obtain ⟨R, hR⟩ : ∃ R, R = runesL Φ zs := ⟨_, rfl⟩
  rw [← hR] at HLn ⊢
  have HR := Lib.hid hR
  clear hn hwf hR
  go_enter Tryz.func48, Tryz.ntmps48
  go_wp2_with fail
  go_loopw [5, 13] (fun vo i wr => ∃ k : Nat, k ≤ zs.length ∧ i = .int .i64 k ∧ Hid (ItemsAt wr w.heap.size vo ((zs.take k).map zit)) ∧ Hid (Below w.heap.size w wr)) (fun _ i _ => zs.length - (intOf i).toNat)
  case atStart => exact ⟨0, by omega, rfl, World.ownsRow_nil _ _ _ _, Below.refl _ _⟩
  case round =>
    obtain ⟨k, hk, rfl, HO, HB⟩ := hrel
    by_cases hlt : k < zs.length
    · obtain ⟨A', c', e', _, hzz⟩ := HZ.out.below HB.out
      injection e' with e1 _ e3
      obtain ⟨ad, hA, hcell⟩ := hzz (by omega)
      rw [← e1] at hA
      subst hA
      have cx := hcell k _ (intz_get zs k hlt)
      obtain ⟨x, hx⟩ : ∃ x, x = zs.getD k 0 := ⟨_, rfl⟩
      rw [← hx] at cx
      have hxe : zs[k] = x := by rw [hx, List.getD_eq_getElem?_getD, List.getElem?_eq_getElem hlt]; rfl
      have HS := Lib.hid (show (zs.take k).map zit ++ [zit x] = (zs.take (k + 1)).map zit by rw [List.take_succ_eq_append_getElem hlt, List.map_append, hxe]; rfl)
      have hql : ((zs.take k).map zit).length = k := by rw [List.length_map, List.length_take]; omega
      obtain ⟨Ao, co, hvo⟩ := own_slice HO.out
      subst hvo
      have HO1 := Lib.hid (show wr.ownsRow w.heap.size 54 3 (.slice Ao ((zs.take k).map zit).length co) k (((zs.take k).map zit).flatMap itCells) by
        have := HO.out
        unfold ItemsAt at this
        rwa [hql] at this ⊢)
      rw [hql] at HO1 ⊢
      clear hzz hcell hx hxe e1 e3 hql HO
      go_wp2_with (at_builtin; refine wp_append_lit slItem rfl (.tmp 17) (.tmp 20) rfl w.heap.size (.slice Ao k co) k (((zs.take k).map zit).flatMap itCells) rfl (by exact HO1.out) #[.int .i64 x, .int .i64 0, .int .i64 0] rfl rfl (by simp [Value.oneCell']) (by omega) (by exact HB.out.size) ?_; intro v6 w6 hown6 hg6; have HO6 := Lib.hid hown6; have HB6 := Lib.hid (HB.out.grown hg6 HB.out.size (fun k hk => (own_lt HO1.out k hk).1)); clear hown6 hg6)
      go_roundw
      case rel => exact ⟨k + 1, by omega, by go_num, (show ItemsAt _ _ _ _ by
        unfold ItemsAt
        rw [show ((zs.take (k + 1)).map zit).length = k + 1 by rw [List.length_map, List.length_take]; omega, ← HS.out, ← items_snoc]
        exact HO6.out), HB6⟩
      case measure => simp [intOf]; omega
    · have hke : k = zs.length := by omega
      subst hke
      have HO1 := Lib.hid (show ItemsAt wr w.heap.size _ (zs.map zit) by have := HO.out; rwa [List.take_length] at this)
      clear HO
      have hwz : ∀ x ∈ zs.map zit, (Lit.int .i64 x.r).wf = true := fun x hx => by
        obtain ⟨z, hz, rfl⟩ := List.mem_map.1 hx
        exact HW.out z hz
      have HIW := Lib.hid (HI.out wr HB.out _ _ (ItsAt.of_own HO1.out) hwz (by rw [List.length_map]; exact hl))
      clear HO1 hwz HI
      go_wp2_with fail
      refine HIW.out.mono ?_
      rintro e w2 ⟨v25, rfl, hv25, hb2⟩
      have HB2 := Lib.hid (HB.out.trans (hb2.mono HB.out.size))
      have hRe : R = (nfd Φ (zs.map zit)).map It.r := HR.out
      have HRe := Lib.hid hRe
      obtain ⟨A25, c25, rfl⟩ := own_slice hv25
      have HV := Lib.hid hv25
      generalize wr.heap.size = b25 at *
      generalize nfd Φ (zs.map zit) = ys at *
      have hly : ys.length = R.length := by rw [hRe, List.length_map]
      have hlr := HLn.out.1
      clear hv25 hb2 HIW HB hRe
      go_wp2_with fail
      go_loopw [8, 27] (fun vo i wx => ∃ q : Nat, q ≤ ys.length ∧ i = .int .i64 q ∧ Hid (IntsAt wx w.heap.size vo ((ys.take q).map It.r)) ∧ Hid (ItemsAt wx b25 (.slice A25 ys.length c25) ys) ∧ Hid (Below w.heap.size w wx)) (fun _ i _ => ys.length - (intOf i).toNat)
      case atStart => exact ⟨0, by omega, rfl, World.ownsRow_nil _ _ _ _, HV, HB2⟩
      case round =>
        clear HV HB2
        obtain ⟨q, hq, rfl, HO, HV, HB⟩ := hrel
        by_cases hqt : q < ys.length
        · obtain ⟨g, cap, hv, _⟩ := own_form HV.out (by omega)
          injection hv with hA hn0 hc0
          subst hA hc0
          clear hn0
          obtain ⟨y, hy⟩ : ∃ y, y = ys[q] := ⟨_, rfl⟩
          obtain ⟨p0, p1, p2⟩ := items_get ys q hqt
          rw [← hy] at p0 p1 p2
          have q0 := own_cell HV.out _ _ p0
          have q1 := own_cell HV.out _ _ p1
          have q2 := own_cell HV.out _ _ p2
          have HS := Lib.hid (show (ys.take q).map It.r ++ [y.r] = (ys.take (q + 1)).map It.r by rw [List.take_succ_eq_append_getElem hqt, List.map_append, ← hy]; rfl)
          have hql : ((ys.take q).map It.r).length = q := by rw [List.length_map, List.length_take]; omega
          obtain ⟨Ao, co, hvo⟩ := own_slice HO.out
          subst hvo
          have HO0 := Lib.hid (show wr.ownsRow w.heap.size 3 1 (.slice Ao q co) q (intz ((ys.take q).map It.r)) by
            have := HO.out
            unfold IntsAt at this
            rwa [hql] at this)
          rw [hql]
          obtain ⟨X, hX⟩ : ∃ X, X = Obj.cells #[Value.int IntKind.i64 y.r, Value.int IntKind.i64 y.s, Value.int IntKind.i64 y.e] 54 := ⟨_, rfl⟩
          have hbx := alloc_below wr X
          have HX7 := Lib.hid (show Blk (wr.alloc X) wr.heap.size 54 #[Value.int IntKind.i64 y.r, Value.int IntKind.i64 y.s, Value.int IntKind.i64 y.e] by rw [hX]; exact row_new _ _)
          have HO1 := Lib.hid (own_below HO0.out hbx)
          have HV1 := Lib.hid (show ItemsAt (wr.alloc X) b25 (.slice (some ⟨g, 0, none⟩) ys.length c25) ys from own_below HV.out hbx)
          have HB1 := Lib.hid (HB.out.trans (hbx.mono HB.out.size))
          rw [hX] at HX7 HO1 HV1 HB1
          clear p0 p1 p2 hy hql hbx HO HV HB HO0 hX X
          go_upto_region 11 with fail
          clear q0 q1 q2
          generalize wr.alloc _ = W1 at *
          generalize wr.heap.size = xb at *
          have q0 := HX7.out.cell 0
          go_wp2_with (at_builtin; refine wp_append_lit slIntN rfl (.tmp 31) (.tmp 34) rfl w.heap.size (.slice Ao q co) q (intz ((ys.take q).map It.r)) rfl (by exact HO1.out) #[.int .i64 y.r] rfl rfl (by simp [Value.oneCell']) (by omega) (by exact HB1.out.size) ?_; intro v6 w6 hown6 hg6; have HV6 := Lib.hid (HV1.out.kept hg6 (own_types HV1.out HO1.out (by decide))); have HO6 := Lib.hid hown6; have HB6 := Lib.hid (HB1.out.grown hg6 HB1.out.size (fun k hk => (own_lt HO1.out k hk).1)); clear hown6 hg6)
          go_roundw
          case rel => exact ⟨q + 1, by omega, by go_num, (show IntsAt _ _ _ _ by
            unfold IntsAt
            rw [show ((ys.take (q + 1)).map It.r).length = q + 1 by rw [List.length_map, List.length_take]; omega, ← HS.out, ← intz_snocN]
            exact HO6.out), HV6, HB6⟩
          case measure => simp [intOf]; omega
        · have hqe : q = ys.length := by omega
          subst hqe
          have hfin : (ys.take ys.length).map It.r = R := by rw [List.take_length, ← HRe.out]
          have HO1 := Lib.hid (show IntsAt wr w.heap.size _ R by have := HO.out; rwa [hfin] at this)
          clear HO hfin HV
          go_wp2_with fail
          go_ret
          exact ⟨_, rfl, HO1.out, HB.out⟩
/-- norm.Is of what is so already. -/
theorem is_walk (hn : Nmd w m Φ) {v : Value} {zs : List Int} (hz : ListAt w v zs) (hwf : ∀ z ∈ zs, (Lit.int .i64 z).wf = true) (hl : zs.length ≤ 100000) (hs : runesL Φ zs = zs) : Calls Tryz.prog 51 #[.pointer (some ⟨m + 3, 0, none⟩), v] w fun e w' => e = .returned (.bool true) ∧ Below w.heap.size w w' := by
  obtain ⟨s, hse, hcat⟩ := hn.cat w (Below.refl _ _)
  have HC := Lib.hid hcat
  have HZ := Lib.hid hz
  have HR := Lib.hid (fun (W : World) (hb : Below w.heap.size w W) => hs ▸ runes_walk (hn.below hb) (hz.below hb) hwf hl)
  obtain ⟨A1, c1, rfl, hn1, _⟩ := hz
  clear hn hcat hwf hs
  go_enter Tryz.func51, Tryz.ntmps51
  go_wp2_with fail
  refine HC.out.mono ?_
  rintro e w1 ⟨rfl, hb1⟩
  have HB1 := Lib.hid hb1
  clear hb1 HC
  go_wp2_with fail
  refine (HR.out _ HB1.out).mono ?_
  rintro e w2 ⟨v2, rfl, hv2, hb2⟩
  obtain ⟨A2, c2, rfl⟩ := own_slice hv2
  have HE := Lib.hid (equalv_walk (ListAt.of_own hv2) ((HZ.out.below HB1.out).below hb2))
  have HB2 := Lib.hid (HB1.out.trans (hb2.mono HB1.out.size))
  clear hv2 hb2 HB1 HR HZ
  go_wp2_with fail
  refine HE.out.mono ?_
  rintro e w3 ⟨rfl, hb3⟩
  have HB3 := Lib.hid (HB2.out.trans (hb3.mono HB2.out.size))
  clear hb3 HE HB2
  go_wp2_with fail
  go_ret
  exact ⟨rfl, HB3.out⟩
end
theorem own_lit3n (w : World) (e : TypeId) (a b c : Value) : (w.alloc (.cells #[a, b, c] e)).ownsRow w.heap.size e 1 (.slice (some ⟨w.heap.size, 0, none⟩) 3 3) 3 [a, b, c] :=
  ⟨rfl, .inr ⟨w.heap.size, 3, #[a, b, c], rfl, Nat.le_refl _, row_new _ _, by omega, by unfold maxLen; omega, rfl, rfl⟩⟩
set_option maxRecDepth 100000 in
theorem awake08_walk (w : World) (hE : Env w) (hT : EnvT w) (hH : Hang w) : Calls Tryz.prog 47 #[] w fun e w' => e = .returned (.bool true) ∧ Below w.heap.size w w' := by
  have HLD := Lib.hid (load_calls w hE hT)
  have HR := Lib.hid (fun (W : World) (m : Nat) (v : Value) (ht : TabAt W m files) (hb : Below w.heap.size w W) (hz : ListAt W v [97, 769, 803]) => runes_aw ▸ runes_walk (nmd_files ht (hH.below hb)) hz (by decide) (by decide))
  generalize files = Φ at *
  clear hE hT hH
  go_enter Tryz.func47, Tryz.ntmps47
  go_wp2_with fail
  refine HLD.out.mono ?_
  rintro e w1 ⟨rfl, ht, hb1⟩
  have hba := alloc_below w1 (Obj.cells #[Value.int IntKind.i64 97, Value.int IntKind.i64 769, Value.int IntKind.i64 803] 3)
  have hL1 := (show IntsAt (w1.alloc (Obj.cells #[Value.int IntKind.i64 97, Value.int IntKind.i64 769, Value.int IntKind.i64 803] 3)) w1.heap.size _ [97, 769, 803] from own_lit3n w1 3 (Value.int .i64 97) (Value.int .i64 769) (Value.int .i64 803))
  have HT1 := Lib.hid (ht.below hba)
  have HB1 := Lib.hid (hb1.trans (hba.mono hb1.size))
  have HL1 := Lib.hid (ListAt.of_own hL1)
  clear ht hb1 HLD hba hL1
  go_wp2_with fail
  refine (HR.out _ _ _ HT1.out HB1.out HL1.out).mono ?_
  rintro e w2 ⟨v2, rfl, hv2, hb2⟩
  obtain ⟨A2, c2, rfl⟩ := own_slice hv2
  have hba := alloc_below w2 (Obj.cells #[Value.int IntKind.i64 97, Value.int IntKind.i64 803, Value.int IntKind.i64 769] 3)
  have HE := Lib.hid (equalv_walk (ListAt.of_own (own_below hv2 hba)) (ListAt.of_own (show IntsAt (w2.alloc (Obj.cells #[Value.int IntKind.i64 97, Value.int IntKind.i64 803, Value.int IntKind.i64 769] 3)) w2.heap.size _ [97, 803, 769] from own_lit3n w2 3 (Value.int .i64 97) (Value.int .i64 803) (Value.int .i64 769))))
  have HB2 := Lib.hid (HB1.out.trans ((hb2.trans (hba.mono hb2.size)).mono HB1.out.size))
  clear hv2 hb2 HB1 HR HT1 HL1 hba
  go_wp2_with fail
  refine HE.out.mono ?_
  rintro e w3 ⟨rfl, hb3⟩
  have HB3 := Lib.hid (HB2.out.trans (hb3.mono HB2.out.size))
  clear hb3 HE HB2
  go_wp2_with fail
  go_ret
  exact ⟨rfl, HB3.out⟩
end Go.Proofs.YtpmbebofinlmmaaGreatDoor
