/- rubricatorlaw12.ItemsEqual answers true. -/
import Derived.Test.YthoegenipbohmaaGreatDoorEncW
import Derived.Test.YthoegenipbohmaaGreatDoorItmR
namespace Go.Proofs.YthoegenipbohmaaGreatDoor
open Go.RowKit Utf Itm
set_option linter.unusedVariables false
set_option linter.unusedSimpArgs false
/-! ### what is made of code points that may be encoded may be encoded -/
def scalB (rs : List Rec) : Bool := rs.all fun x => (Sp.pts (fld0 x)).all fun n => Nat.blt n 55296 || Nat.blt 57343 n
theorem dec_scal : scalB (recsOf Tryz.f55) = true := by kernel_rfl
set_option maxRecDepth 100000 in
theorem files_scal : scalB files.dec = true := dec_scal
theorem parts_scal {rs : List Rec} (h : scalB rs = true) {r : Int} {l : List Nat} (hP : partsOf rs r = some l) : ∀ n ∈ l, n < 55296 ∨ 57343 < n := by
  intro n hn
  obtain ⟨x, hx, _, _, rfl⟩ := parts_rec hP
  have h1 := List.all_eq_true.1 (List.all_eq_true.1 h x hx) n hn
  rw [Bool.or_eq_true] at h1
  rcases h1 with h1 | h1
  · rw [Nat.blt_eq] at h1; exact .inl h1
  · rw [Nat.blt_eq] at h1; exact .inr h1
theorem valid_lt {x : Int} (h0 : 0 ≤ x) (h : x < 55296) : valid x = true := by
  unfold valid
  simp only [Bool.and_eq_true, Bool.not_eq_true', Bool.and_eq_false_iff, decide_eq_true_eq, decide_eq_false_iff_not]
  omega
theorem valid_nat {n : Nat} (h : n ≤ 1114111) (h2 : n < 55296 ∨ 57343 < n) : valid (n : Int) = true := by
  unfold valid
  simp only [Bool.and_eq_true, Bool.not_eq_true', Bool.and_eq_false_iff, decide_eq_true_eq, decide_eq_false_iff_not]
  omega
theorem dfull_valid {rs : List Rec} (h : scalB rs = true) : ∀ (k : Nat) (r : Int), valid r = true → ∀ x ∈ dfull (partsOf rs) k r, valid x = true
  | k, r, hr, x, hx => by
    by_cases hs : isSyl r = true
    · have : dfull (partsOf rs) k r = sylOf r := by cases k <;> (unfold dfull; rw [if_pos hs])
      rw [this] at hx
      unfold isSyl at hs
      simp only [Bool.and_eq_true, decide_eq_true_eq] at hs
      have h3 : 0 ≤ x ∧ x < 55296 := by
        unfold sylOf at hx
        split at hx
        · simp at hx
          rcases hx with rfl | rfl <;> omega
        · simp at hx
          rcases hx with rfl | rfl | rfl <;> omega
      exact valid_lt h3.1 h3.2
    · cases k with
      | zero =>
        rw [dfull, if_neg hs] at hx
        have : x = r := by simpa using hx
        rw [this]; exact hr
      | succ k =>
        rw [dfull_succ, if_neg hs] at hx
        cases hP : partsOf rs r with
        | none => rw [hP] at hx; have : x = r := by simpa using hx
                  rw [this]; exact hr
        | some l =>
          have hsc := parts_scal h hP
          cases l with
          | nil => rw [hP] at hx; have : x = r := by simpa using hx
                   rw [this]; exact hr
          | cons n l =>
            rw [hP] at hx
            obtain ⟨q, hq, hx2⟩ := List.mem_flatMap.1 hx
            obtain ⟨z, _, _, _, hz⟩ := parts_rec hP
            have hq2 : q ≤ 1114111 := by rw [hz] at hq; exact pts_le _ q hq
            exact dfull_valid h k q (valid_nat hq2 (hsc q hq)) x hx2
theorem runes_valid (zs : List Int) (h : ∀ z ∈ zs, valid z = true) : ∀ y ∈ runesL files zs, valid y = true := fun y hy => by
  obtain ⟨z, hz, hd⟩ := runes_mem zs y hy
  exact dfull_valid files_scal 5 z (h z hz) y hd
theorem subj_runes (zs : List Int) (h : ∀ z ∈ zs, valid z = true) : (subj true (zs.flatMap encOf)).map It.r = runesL files zs := by
  show (nfd files (dec (zs.flatMap encOf) 0)).map It.r = _
  rw [nfd_runes, dec_enc zs 0 h]
theorem enc_len (zs : List Int) : (zs.flatMap encOf).length ≤ 4 * zs.length := by
  induction zs with
  | nil => simp
  | cons z zs ih =>
    have := encOf_len z
    rw [List.flatMap_cons, List.length_append, List.length_cons]
    omega
theorem enc_byte (zs : List Int) : ∀ b ∈ zs.flatMap encOf, b ≤ 255 := fun b hb => by
  obtain ⟨z, _, hz⟩ := List.mem_flatMap.1 hb
  exact encOf_byte z b hz
set_option maxRecDepth 100000 in
theorem text_walk {w : World} {v : Value} {zs : List Int} (hz : ListAt w v zs) (hl : zs.length ≤ 10000) : Calls Tryz.prog 40 #[v] w (BytesSaid (zs.flatMap encOf) w) := by
  have HZ := Lib.hid hz
  obtain ⟨A, c, rfl, hn, _⟩ := hz
  go_enter Tryz.func40, Tryz.ntmps40
  go_wp2_with fail
  go_loopw [3, 10] (fun vo i wr => ∃ k : Nat, k ≤ zs.length ∧ i = .int .i64 k ∧ Hid (BytesO wr w.heap.size vo ((zs.take k).flatMap encOf)) ∧ Hid (Below w.heap.size w wr)) (fun _ i _ => zs.length - (intOf i).toNat)
  case atStart => exact ⟨0, by omega, rfl, World.ownsRow_nil _ _ _ _, Below.refl _ _⟩
  case round =>
    obtain ⟨k, hk, rfl, HO, HB⟩ := hrel
    by_cases hlt : k < zs.length
    · obtain ⟨A', c', e', _, hzz⟩ := HZ.out.below HB.out
      injection e' with e1 _ e3
      obtain ⟨ad, hA, hcell⟩ := hzz (by omega)
      rw [← e1] at hA
      subst hA
      have cx := hcell k _ (intz_get zs k hlt)
      obtain ⟨x, hx⟩ : ∃ x, x = zs.getD k 0 := ⟨_, rfl⟩
      rw [← hx] at cx
      have hxe : zs[k] = x := by rw [hx, List.getD_eq_getElem?_getD, List.getElem?_eq_getElem hlt]; rfl
      have HS := Lib.hid (show (zs.take (k + 1)).flatMap encOf = (zs.take k).flatMap encOf ++ encOf x by rw [List.take_succ_eq_append_getElem hlt, List.flatMap_append, hxe]; simp)
      have hpl : ((zs.take k).flatMap encOf).length ≤ 40000 := by have := enc_len (zs.take k); rw [List.length_take] at this; omega
      generalize (zs.take k).flatMap encOf = pre at *
      clear hzz hcell hx hxe e1 e3
      go_wp2_with fail
      refine (encode_walk wr x).mono ?_
      rintro e w1 ⟨v1, rfl, hv1, hb1⟩
      replace HB := Lib.hid (HB.out.trans (hb1.mono HB.out.size))
      replace HO := Lib.hid (own_below HO.out hb1)
      have hel := encOf_len x
      have hform : ∃ Ae ce, v1 = .slice Ae (encOf x).length ce ∧ (Ae = none → (encOf x).length = 0 ∧ ce = 0) ∧ ∀ ad, Ae = some ad → ∀ j u, (bytz (encOf x))[j]? = some u → w1.cell? (ad.add j) = some u := by
        rcases hv1.2 with ⟨rfl, h0⟩ | ⟨g, cap, cur, rfl, _⟩
        · exact ⟨none, 0, by rw [h0], fun _ => ⟨h0, rfl⟩, fun ad e => by cases e⟩
        · refine ⟨_, cap, rfl, (fun e => by cases e), fun ad e j u hu => ?_⟩
          cases e
          rw [add_plain, Nat.zero_add]
          exact own_cell hv1 j u hu
      obtain ⟨Ae, ce, rfl, hAe, hce⟩ := hform
      have HAe := Lib.hid hAe
      have HCe := Lib.hid hce
      generalize encOf x = enc at *
      clear hv1 hb1 hAe hce
      go_wp2_with (at_builtin; refine wp_append_more w1 slByte rfl (.tmp 19) (.tmp 20) rfl w.heap.size _ pre.length (bytz pre) rfl (by exact HO.out) Ae enc.length ce (bytz enc) rfl (by exact HAe.out) (by rw [bytz_len, Nat.mul_one]) HCe.out (bytz_one enc) (by omega) HB.out.size ?_; intro v3 w3 hown hg; have HB3 := Lib.hid (HB.out.grown hg HB.out.size (fun k hk => (own_lt HO.out k hk).1)); have HO3 := Lib.hid hown; clear hown hg)
      go_roundw
      case rel => exact ⟨k + 1, by omega, by go_num, (by
        have h1 := HO3.out
        show BytesO _ _ _ _
        rw [HS.out]
        unfold BytesO bytz
        rw [List.length_append, List.map_append]
        exact h1), HB3⟩
      case measure => simp [intOf]; omega
    · have hke : k = zs.length := by omega
      subst hke
      have HO1 := Lib.hid (show BytesO wr w.heap.size _ (zs.flatMap encOf) by have := HO.out; rwa [List.take_length] at this)
      clear HO
      go_wp2_with fail
      go_ret
      exact ⟨_, rfl, HO1.out, HB.out⟩
theorem cut60 (n : Nat) : ∃ k : Nat, ((if 60 < (n : Int) then 60 else (n : Int)) = k ∧ min (n : Int) 60 = k ∧ (if (n : Int) ≤ 60 then (n : Int) else 60) = k) ∧ (k ≤ 60 ∧ k ≤ n) := by
  by_cases h : 60 < n
  · exact ⟨60, ⟨by rw [if_pos (by omega)]; rfl, by omega, by rw [if_neg (by omega)]; rfl⟩, by omega⟩
  · exact ⟨n, ⟨by rw [if_neg (by omega)], by omega, by rw [if_pos (by omega)]⟩, by omega⟩
set_option maxRecDepth 100000 in
set_option maxHeartbeats 800000 in
theorem itemsEqual_walk {v0 : Value} {zs0 : List Int} (w : World) (hl0 : ListW w v0 zs0) (hE : Env w) (hT : EnvT w) (hH : Hang w) : Calls Tryz.prog 12 #[v0] w fun e w' => e = .returned (.bool true) ∧ Below w.heap.size w w' := by
  have HRL := Lib.hid (fun W => ref_load W)
  have HBO := Lib.hid (fun (W : World) (hb : Below w.heap.size w W) (v : Value) (bs : List Nat) (h : BytesAt W v bs) => (both_walk h true (hE.below hb) (hT.below hb) (hH.below hb)).mono fun e w' h => h.get)
  have HR8 := Lib.hid (fun (W : World) (B b : Nat) (v : Value) (zs : List Int) (hr : RefAt W B b files) (hz : ListAt W v zs) (hl : zs.length ≤ 100000) => runes08_walk (items08_files hr) files_short2 hz hl)
  have F1 := Lib.hid subj_runes
  have F2 := Lib.hid runes_valid
  have F3 := Lib.hid (fun zs => runes_twice (Φ := files) (show endB files.dec = true from dec_end) zs)
  have F4 := Lib.hid (fun zs => (runes_len files_short2 zs).1)
  have F5 := Lib.hid (fun bs hb => subj_len true bs hb)
  generalize subj true = S at *
  generalize runesL files = R at *
  generalize files = Φ at *
  clear hE hT hH
  obtain ⟨A, c, rfl, hac, han, hA⟩ := hl0.1.form
  obtain ⟨k, ⟨hk1, m2, m3⟩, hk2⟩ := cut60 zs0.length
  have HAL := Lib.hid (hl0.1.cut hk2.2).1
  obtain ⟨zs, hzs, hzl⟩ : ∃ zs : List Int, zs = zs0.take k ∧ zs.length = k := ⟨_, rfl, by rw [List.length_take]; omega⟩
  rw [← hzs] at HAL
  have hk60 := hk2.1
  have hk0 := hk2.2
  clear hl0 hzs hA hk2
  subst hzl
  go_enter Tryz.func12, Tryz.ntmps12
  go_wp2_with fail
  refine (HRL.out _).mono ?_
  rintro e w1 ⟨b, rfl, hr, hb1⟩
  have HRF := Lib.hid hr
  have HB := Lib.hid hb1
  replace HAL := Lib.hid (HAL.out.below hb1)
  generalize w.heap.size = B0 at HRF
  clear hr hb1 HRL m2 m3 hk1
  go_wp2_with fail
  go_loopw [5, 24] (fun vo i wr => ∃ k : Nat, k ≤ zs.length ∧ i = .int .i64 k ∧ Hid (IntsAt wr w1.heap.size vo ((zs.take k).filter fun r => valid r)) ∧ Hid (Below w1.heap.size w1 wr)) (fun _ i _ => zs.length - (intOf i).toNat)
  case atStart => exact ⟨0, by omega, rfl, World.ownsRow_nil _ _ _ _, Below.refl _ _⟩
  case round =>
    obtain ⟨k, hk, rfl, HO, HBW⟩ := hrel
    by_cases hlt : k < zs.length
    · obtain ⟨A', c', e', _, hzz⟩ := HAL.out.below HBW.out
      injection e' with e1 _ e3
      obtain ⟨ad, hA, hcell⟩ := hzz (by omega)
      rw [← e1] at hA
      subst hA
      have cx := hcell k _ (intz_get zs k hlt)
      obtain ⟨x, hx⟩ : ∃ x, x = zs.getD k 0 := ⟨_, rfl⟩
      rw [← hx] at cx
      have hxe : zs[k] = x := by rw [hx, List.getD_eq_getElem?_getD, List.getElem?_eq_getElem hlt]; rfl
      have HS := Lib.hid (show (zs.take (k + 1)).filter (fun r => valid r) = (zs.take k).filter (fun r => valid r) ++ (if valid x = true then [x] else []) by
        rw [List.take_succ_eq_append_getElem hlt, List.filter_append, hxe, List.filter_cons]
        split <;> rfl)
      have hpl : ((zs.take k).filter (fun r => valid r)).length ≤ 60 := by
        have h1 := List.length_filter_le (fun r => valid r) (zs.take k)
        rw [List.length_take] at h1
        omega
      generalize (zs.take k).filter (fun r => valid r) = pre at *
      clear hzz hcell hx hxe e1 e3
      go_wp2_with fail
      refine (encode_walk wr x).mono ?_
      rintro e w2 ⟨v1, rfl, _, hb2⟩
      replace HBW := Lib.hid (HBW.out.trans (hb2.mono HBW.out.size))
      obtain ⟨Ao, co, hvo⟩ := own_slice HO.out
      subst hvo
      replace HO := Lib.hid (show w2.ownsRow w1.heap.size 3 1 (.slice Ao pre.length co) pre.length (intz pre) from own_below HO.out hb2)
      clear hb2
      cases hv : valid x with
      | true =>
        have HS2 := Lib.hid (show (zs.take (k + 1)).filter (fun r => valid r) = pre ++ [x] by rw [HS.out, hv]; rfl)
        clear HS hv
        go_wp2_with (at_builtin; refine wp_append_lit slIntN rfl (.tmp 34) (.tmp 36) rfl w1.heap.size (.slice Ao pre.length co) pre.length (intz pre) rfl (by exact HO.out) #[.int .i64 x] rfl rfl (by simp [Value.oneCell']) (by omega) (by exact HBW.out.size) ?_; intro v6 w6 hown6 hg6; have HO6 := Lib.hid hown6; have HB6 := Lib.hid (HBW.out.grown hg6 HBW.out.size (fun k hk => (own_lt HO.out k hk).1)); clear hown6 hg6)
        go_roundw
        case rel => exact ⟨k + 1, by omega, by go_num, (by
          show IntsAt _ _ _ _
          rw [HS2.out]
          unfold IntsAt
          rw [List.length_append, ← intz_snocN]
          exact HO6.out), HB6⟩
        case measure => simp [intOf]; omega
      | false =>
        have HS2 := Lib.hid (show (zs.take (k + 1)).filter (fun r => valid r) = pre by rw [HS.out, hv]; simp)
        clear HS hv
        go_wp2_with fail
        go_roundw
        case rel => exact ⟨k + 1, by omega, by go_num, (by
          show IntsAt _ _ _ _
          rw [HS2.out]
          exact HO.out), HBW⟩
        case measure => simp [intOf]; omega
    · have hke : k = zs.length := by omega
      subst hke
      have hO := HO.out
      rw [List.take_length] at hO
      have hO : IntsAt wr w1.heap.size _ (zs.filter fun r => valid r) := hO
      have HFv := Lib.hid (show ∀ z ∈ zs.filter (fun r => valid r), valid z = true from fun z hz => by simpa using (List.mem_filter.1 hz).2)
      have hFl : (zs.filter fun r => valid r).length ≤ 60 := by have := List.length_filter_le (fun r => valid r) zs; omega
      obtain ⟨Ao, co, hvo⟩ := own_slice hO
      rw [hvo] at hO ⊢
      clear hvo
      generalize (zs.filter fun r => valid r) = F at *
      have HO1 := Lib.hid (show IntsAt wr w1.heap.size (.slice Ao F.length co) F from hO)
      replace HB := Lib.hid (HB.out.trans (HBW.out.mono HB.out.size))
      replace HRF := Lib.hid (HRF.out.below HBW.out)
      generalize w1.heap.size = B1 at *
      clear HO hO HBW HAL
      obtain ⟨N, hN⟩ : ∃ N, N = R F := ⟨_, rfl⟩
      have HN1 := Lib.hid hN
      have HNv := Lib.hid (show ∀ y ∈ N, valid y = true from hN ▸ F2.out F HFv.out)
      have HNt := Lib.hid (show R N = N by rw [hN]; exact F3.out F)
      have hNl : N.length ≤ 5760 := by have := F4.out F; rw [hN]; omega
      have HS1 := Lib.hid (show (S (F.flatMap encOf)).map It.r = N by rw [F1.out F HFv.out, hN])
      have HS2 := Lib.hid (show (S (N.flatMap encOf)).map It.r = N by rw [F1.out N HNv.out, HNt.out])
      clear hN
      have hl1 : (F.flatMap encOf).length ≤ 240 := by have := enc_len F; omega
      have e1 : (F.flatMap encOf).take 300 = F.flatMap encOf := List.take_of_length_le (by omega)
      have HE1 := Lib.hid e1
      have hS1l := F5.out (F.flatMap encOf) (by omega)
      have hS2l := F5.out ((N.flatMap encOf).take 300) (take300 _)
      clear e1
      obtain ⟨T1, hT1⟩ : ∃ T, T = F.flatMap encOf := ⟨_, rfl⟩
      rw [← hT1] at HS1 hl1 HE1 hS1l
      have HT1 := Lib.hid hT1
      obtain ⟨T2, hT2⟩ : ∃ T, T = N.flatMap encOf := ⟨_, rfl⟩
      rw [← hT2] at HS2 hS2l
      have HT2 := Lib.hid hT2
      clear hT1 hT2
      go_wp2_with fail
      refine (text_walk (ListAt.of_own HO1.out) (by omega)).mono ?_
      rintro e w2 ⟨v2, rfl, hv2, hb2⟩
      rw [← HT1.out] at hv2
      obtain ⟨A2, c2, rfl⟩ := own_slice hv2
      have hbt := BytesAt.of_own hv2 (by rw [HT1.out]; exact enc_byte F)
      replace HB := Lib.hid (HB.out.trans (hb2.mono HB.out.size))
      have HBc := Lib.hid (HBO.out w2 HB.out _ _ hbt)
      replace HRF := Lib.hid (HRF.out.below hb2)
      replace HO1 := Lib.hid (show IntsAt w2 B1 (.slice Ao F.length co) F from own_below HO1.out hb2)
      clear hv2 hb2 hbt
      go_wp2_with fail
      refine HBc.out.mono ?_
      rintro e w3 ⟨p, q, B, B', rfl, hx, _, hb3⟩
      rw [HE1.out] at hx
      have HX := Lib.hid hx
      replace HB := Lib.hid (HB.out.trans (hb3.mono HB.out.size))
      replace HRF := Lib.hid (HRF.out.below hb3)
      replace HO1 := Lib.hid (show IntsAt w3 B1 (.slice Ao F.length co) F from own_below HO1.out hb3)
      clear hx hb3 HBc
      go_wp2_with fail
      refine (HR8.out w3 _ b _ F HRF.out (ListAt.of_own HO1.out) (by omega)).mono ?_
      rintro e w4 ⟨v4, rfl, hv4, hb4⟩
      rw [← HN1.out] at hv4
      obtain ⟨A4, c4, rfl⟩ := own_slice hv4
      replace HB := Lib.hid (HB.out.trans (hb4.mono HB.out.size))
      replace HRF := Lib.hid (HRF.out.below hb4)
      replace HX := Lib.hid (HX.out.below hb4)
      replace HO1 := Lib.hid (show IntsAt w4 B1 (.slice Ao F.length co) F from own_below HO1.out hb4)
      have HV4 := Lib.hid (ListAt.of_own hv4)
      clear hv4 hb4
      go_wp2_with fail
      refine (text_walk HV4.out (by omega)).mono ?_
      rintro e w5 ⟨v5, rfl, hv5, hb5⟩
      rw [← HT2.out] at hv5
      obtain ⟨A5, c5, rfl⟩ := own_slice hv5
      have hbt := BytesAt.of_own hv5 (by rw [HT2.out]; exact enc_byte N)
      replace HB := Lib.hid (HB.out.trans (hb5.mono HB.out.size))
      have HBc := Lib.hid (HBO.out w5 HB.out _ _ hbt)
      replace HRF := Lib.hid (HRF.out.below hb5)
      replace HX := Lib.hid (HX.out.below hb5)
      replace HO1 := Lib.hid (show IntsAt w5 B1 (.slice Ao F.length co) F from own_below HO1.out hb5)
      clear hv5 hb5 hbt HV4
      go_wp2_with fail
      refine HBc.out.mono ?_
      rintro e w6 ⟨p2, q2, B2, B2', rfl, hy, _, hb6⟩
      have HY := Lib.hid hy
      replace HB := Lib.hid (HB.out.trans (hb6.mono HB.out.size))
      replace HRF := Lib.hid (HRF.out.below hb6)
      replace HX := Lib.hid (HX.out.below hb6)
      replace HO1 := Lib.hid (show IntsAt w6 B1 (.slice Ao F.length co) F from own_below HO1.out hb6)
      clear hy hb6 HBc HBO
      go_wp2_with fail
      refine (HR8.out w6 _ b _ F HRF.out (ListAt.of_own HO1.out) (by omega)).mono ?_
      rintro e w7 ⟨v7, rfl, hv7, hb7⟩
      rw [← HN1.out] at hv7
      obtain ⟨A7, c7, rfl⟩ := own_slice hv7
      replace HB := Lib.hid (HB.out.trans (hb7.mono HB.out.size))
      replace HX := Lib.hid (HX.out.below hb7)
      replace HY := Lib.hid (HY.out.below hb7)
      have HV7 := Lib.hid (ListAt.of_own hv7)
      clear hv7 hb7 HR8 HRF HO1
      go_wp2_with fail
      refine (text_walk HV7.out (by omega)).mono ?_
      rintro e w8 ⟨v8, rfl, hv8, hb8⟩
      rw [← HT2.out] at hv8
      obtain ⟨A8, c8, rfl⟩ := own_slice hv8
      replace HB := Lib.hid (HB.out.trans (hb8.mono HB.out.size))
      replace HX := Lib.hid (HX.out.below hb8)
      replace HY := Lib.hid (HY.out.below hb8)
      clear hv8 hb8 HV7
      obtain ⟨ln, hln⟩ : ∃ ln, ln = T2.length := ⟨_, rfl⟩
      rw [← hln]
      by_cases hbig : 300 < ln
      · have d1 : decide ((ln : Int) > 300) = true := by rw [decide_eq_true_eq]; omega
        have d2 : decide (300 < ln) = true := decide_eq_true hbig
        clear HX HY hln
        go_wp2_with fail
        go_ret
        exact ⟨rfl, HB.out⟩
      · have d1 : decide ((ln : Int) > 300) = false := by rw [decide_eq_false_iff_not]; omega
        have d2 : decide (300 < ln) = false := decide_eq_false hbig
        have HE2 := Lib.hid (show T2.take 300 = T2 from List.take_of_length_le (by omega))
        replace HY := Lib.hid (show TextAt w8 B2 p2 T2 (S T2) by have := HY.out; rwa [HE2.out] at this)
        rw [HE2.out] at hS2l
        clear hln HE2
        go_wp2_with fail
        refine (trunes_walk HX.out (by omega)).mono ?_
        rintro e w9 ⟨v9, rfl, hv9, hb9⟩
        rw [HS1.out] at hv9
        obtain ⟨A9, c9, rfl⟩ := own_slice hv9
        replace HB := Lib.hid (HB.out.trans (hb9.mono HB.out.size))
        replace HY := Lib.hid (HY.out.below hb9)
        have HV9 := Lib.hid (ListAt.of_own hv9)
        clear hv9 hb9 HX
        go_wp2_with fail
        refine (trunes_walk HY.out (by omega)).mono ?_
        rintro e w10 ⟨v10, rfl, hv10, hb10⟩
        rw [HS2.out] at hv10
        obtain ⟨A10, c10, rfl⟩ := own_slice hv10
        replace HB := Lib.hid (HB.out.trans (hb10.mono HB.out.size))
        have HE := Lib.hid (equalv_walk (HV9.out.below hb10) (ListAt.of_own hv10))
        clear hv10 hb10 HY HV9
        go_wp2_with fail
        refine HE.out.mono ?_
        rintro e w11 ⟨rfl, hb11⟩
        replace HB := Lib.hid (HB.out.trans (hb11.mono HB.out.size))
        clear hb11 HE
        go_wp2_with fail
        go_ret
        exact ⟨rfl, HB.out⟩
end Go.Proofs.YthoegenipbohmaaGreatDoor
