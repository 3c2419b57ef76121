/- rubricatorref11: joined, Edge: the edges of words are those of the program. Printed by wip/tools/mkrefv.py. -/
import Derived.Test.YtkgomgfhfoomhaaGreatDoorRefV
import Derived.Deep.DeepCutAuto
namespace Go.Proofs.YtkgomgfhfoomhaaGreatDoor
open Go.RowKit
set_option linter.unusedVariables false
set_option linter.unusedSimpArgs false

def joinedR (F A C X : Sp.Str) : Bool :=
  if (letterB A && letterB C) then true else
  if ((letterB A && ((C == [77, 105, 100, 76, 101, 116, 116, 101, 114]) || quoteB C)) && letterB X) then true else
  if ((letterB F && ((A == [77, 105, 100, 76, 101, 116, 116, 101, 114]) || quoteB A)) && letterB C) then true else
  if ((A == [72, 101, 98, 114, 101, 119]) && (C == [83, 105, 110, 103, 108, 101, 81, 117, 111, 116, 101])) then true else
  if (((A == [72, 101, 98, 114, 101, 119]) && (C == [68, 111, 117, 98, 108, 101, 81, 117, 111, 116, 101])) && (X == [72, 101, 98, 114, 101, 119])) then true else
  if (((F == [72, 101, 98, 114, 101, 119]) && (A == [68, 111, 117, 98, 108, 101, 81, 117, 111, 116, 101])) && (C == [72, 101, 98, 114, 101, 119])) then true else
  if ((((A == [78, 117, 109, 101, 114, 105, 99]) || letterB A) && (C == [78, 117, 109, 101, 114, 105, 99])) || ((A == [78, 117, 109, 101, 114, 105, 99]) && letterB C)) then true else
  if (((A == [78, 117, 109, 101, 114, 105, 99]) && ((C == [77, 105, 100, 78, 117, 109]) || quoteB C)) && (X == [78, 117, 109, 101, 114, 105, 99])) then true else
  if (((F == [78, 117, 109, 101, 114, 105, 99]) && ((A == [77, 105, 100, 78, 117, 109]) || quoteB A)) && (C == [78, 117, 109, 101, 114, 105, 99])) then true else
  if ((A == [75, 97, 116, 97, 107, 97, 110, 97]) && (C == [75, 97, 116, 97, 107, 97, 110, 97])) then true else
  if ((letterB A || oneB [[78, 117, 109, 101, 114, 105, 99], [75, 97, 116, 97, 107, 97, 110, 97], [74, 111, 105, 110, 101, 114]] A) && (C == [74, 111, 105, 110, 101, 114])) then true else
  if ((A == [74, 111, 105, 110, 101, 114]) && (letterB C || oneB [[78, 117, 109, 101, 114, 105, 99], [75, 97, 116, 97, 107, 97, 110, 97]] C)) then true else false
theorem joinedR_or (F A C X : Sp.Str) : joinedR F A C X = (((letterB A && letterB C)) || (((letterB A && ((C == [77, 105, 100, 76, 101, 116, 116, 101, 114]) || quoteB C)) && letterB X)) || (((letterB F && ((A == [77, 105, 100, 76, 101, 116, 116, 101, 114]) || quoteB A)) && letterB C)) || (((A == [72, 101, 98, 114, 101, 119]) && (C == [83, 105, 110, 103, 108, 101, 81, 117, 111, 116, 101]))) || ((((A == [72, 101, 98, 114, 101, 119]) && (C == [68, 111, 117, 98, 108, 101, 81, 117, 111, 116, 101])) && (X == [72, 101, 98, 114, 101, 119]))) || ((((F == [72, 101, 98, 114, 101, 119]) && (A == [68, 111, 117, 98, 108, 101, 81, 117, 111, 116, 101])) && (C == [72, 101, 98, 114, 101, 119]))) || (((((A == [78, 117, 109, 101, 114, 105, 99]) || letterB A) && (C == [78, 117, 109, 101, 114, 105, 99])) || ((A == [78, 117, 109, 101, 114, 105, 99]) && letterB C))) || ((((A == [78, 117, 109, 101, 114, 105, 99]) && ((C == [77, 105, 100, 78, 117, 109]) || quoteB C)) && (X == [78, 117, 109, 101, 114, 105, 99]))) || ((((F == [78, 117, 109, 101, 114, 105, 99]) && ((A == [77, 105, 100, 78, 117, 109]) || quoteB A)) && (C == [78, 117, 109, 101, 114, 105, 99]))) || (((A == [75, 97, 116, 97, 107, 97, 110, 97]) && (C == [75, 97, 116, 97, 107, 97, 110, 97]))) || (((letterB A || oneB [[78, 117, 109, 101, 114, 105, 99], [75, 97, 116, 97, 107, 97, 110, 97], [74, 111, 105, 110, 101, 114]] A) && (C == [74, 111, 105, 110, 101, 114]))) || (((A == [74, 111, 105, 110, 101, 114]) && (letterB C || oneB [[78, 117, 109, 101, 114, 105, 99], [75, 97, 116, 97, 107, 97, 110, 97]] C)))) := by
  unfold joinedR
  simp only [Bool.if_true_left, Bool.decide_eq_true, Bool.or_false, Bool.or_assoc]
theorem joinedR_eq (F A C X : Sp.Str) : joinedR F A C X = joinedB F A C X := by
  have h1 : (wordB A && wordB C) = ((letterB A && letterB C) || (((A == [78, 117, 109, 101, 114, 105, 99] || letterB A) && C == [78, 117, 109, 101, 114, 105, 99]) || (A == [78, 117, 109, 101, 114, 105, 99] && letterB C))) := by
    unfold wordB
    cases letterB A <;> cases letterB C <;> cases (A == [78, 117, 109, 101, 114, 105, 99]) <;> cases (C == [78, 117, 109, 101, 114, 105, 99]) <;> rfl
  have h2 : (C == [74, 111, 105, 110, 101, 114] && (solidB A || A == [74, 111, 105, 110, 101, 114])) = ((letterB A || oneB [[78, 117, 109, 101, 114, 105, 99], [75, 97, 116, 97, 107, 97, 110, 97], [74, 111, 105, 110, 101, 114]] A) && C == [74, 111, 105, 110, 101, 114]) := by
    rw [three_or]
    unfold solidB
    rw [Bool.and_comm]
    congr 1
    simp only [Bool.or_assoc]
  have h3 : (A == [74, 111, 105, 110, 101, 114] && solidB C) = (A == [74, 111, 105, 110, 101, 114] && (letterB C || oneB [[78, 117, 109, 101, 114, 105, 99], [75, 97, 116, 97, 107, 97, 110, 97]] C)) := by
    rw [two_or]
    unfold solidB
    simp only [Bool.or_assoc]
  rw [joinedR_or]
  unfold joinedB middleB
  rw [h1, h2, h3]
  dsimp only

  generalize (letterB A && letterB C) = p0
  generalize ((letterB A && ((C == [77, 105, 100, 76, 101, 116, 116, 101, 114]) || quoteB C)) && letterB X) = p1
  generalize ((letterB F && ((A == [77, 105, 100, 76, 101, 116, 116, 101, 114]) || quoteB A)) && letterB C) = p2
  generalize ((A == [72, 101, 98, 114, 101, 119]) && (C == [83, 105, 110, 103, 108, 101, 81, 117, 111, 116, 101])) = p3
  generalize (((A == [72, 101, 98, 114, 101, 119]) && (C == [68, 111, 117, 98, 108, 101, 81, 117, 111, 116, 101])) && (X == [72, 101, 98, 114, 101, 119])) = p4
  generalize (((F == [72, 101, 98, 114, 101, 119]) && (A == [68, 111, 117, 98, 108, 101, 81, 117, 111, 116, 101])) && (C == [72, 101, 98, 114, 101, 119])) = p5
  generalize (((A == [78, 117, 109, 101, 114, 105, 99]) || letterB A) && (C == [78, 117, 109, 101, 114, 105, 99])) = p6
  generalize ((A == [78, 117, 109, 101, 114, 105, 99]) && letterB C) = p6b
  generalize (((A == [78, 117, 109, 101, 114, 105, 99]) && ((C == [77, 105, 100, 78, 117, 109]) || quoteB C)) && (X == [78, 117, 109, 101, 114, 105, 99])) = p7
  generalize (((F == [78, 117, 109, 101, 114, 105, 99]) && ((A == [77, 105, 100, 78, 117, 109]) || quoteB A)) && (C == [78, 117, 109, 101, 114, 105, 99])) = p8
  generalize ((A == [75, 97, 116, 97, 107, 97, 110, 97]) && (C == [75, 97, 116, 97, 107, 97, 110, 97])) = p9
  generalize ((letterB A || oneB [[78, 117, 109, 101, 114, 105, 99], [75, 97, 116, 97, 107, 97, 110, 97], [74, 111, 105, 110, 101, 114]] A) && (C == [74, 111, 105, 110, 101, 114])) = p10
  generalize ((A == [74, 111, 105, 110, 101, 114]) && (letterB C || oneB [[78, 117, 109, 101, 114, 105, 99], [75, 97, 116, 97, 107, 97, 110, 97]] C)) = p11
  ac_rfl
def joinedV (v0 v1 v2 v3 v4 v5 v6 v7 v8 v9 v10 v11 v12 v13 v14 v15 v16 v17 v18 v19 v20 v21 v22 v23 v24 v25 v26 : Bool) : Bool :=
    if (v0 && v1) then true else
    if ((v0 && (v2 || v3)) && v4) then true else
    if ((v5 && (v6 || v7)) && v1) then true else
    if (v8 && v9) then true else
    if ((v8 && v10) && v11) then true else
    if ((v12 && v13) && v14) then true else
    if (((v15 || v0) && v16) || (v15 && v1)) then true else
    if ((v15 && (v17 || v3)) && v18) then true else
    if ((v19 && (v20 || v7)) && v16) then true else
    if (v21 && v22) then true else
    if ((v0 || v23) && v24) then true else
    if (v25 && (v1 || v26)) then true else false
set_option maxRecDepth 100000 in
set_option maxHeartbeats 6400000 in
theorem joined11_walk (w : World) (F A C X : ByteArray) : Calls Tryz.prog 81 #[.string F, .string A, .string C, .string X] w fun e w' => e = .returned (.bool (joinedR F.toList A.toList C.toList X.toList)) ∧ Below w.heap.size w w' := by
  have HS := Lib.hid (Below.refl w.heap.size w)
  have He := Lib.hid (show joinedR F.toList A.toList C.toList X.toList = joinedV (letterB A.toList) (letterB C.toList) ((C.toList == [77, 105, 100, 76, 101, 116, 116, 101, 114])) (quoteB C.toList) (letterB X.toList) (letterB F.toList) ((A.toList == [77, 105, 100, 76, 101, 116, 116, 101, 114])) (quoteB A.toList) ((A.toList == [72, 101, 98, 114, 101, 119])) ((C.toList == [83, 105, 110, 103, 108, 101, 81, 117, 111, 116, 101])) ((C.toList == [68, 111, 117, 98, 108, 101, 81, 117, 111, 116, 101])) ((X.toList == [72, 101, 98, 114, 101, 119])) ((F.toList == [72, 101, 98, 114, 101, 119])) ((A.toList == [68, 111, 117, 98, 108, 101, 81, 117, 111, 116, 101])) ((C.toList == [72, 101, 98, 114, 101, 119])) ((A.toList == [78, 117, 109, 101, 114, 105, 99])) ((C.toList == [78, 117, 109, 101, 114, 105, 99])) ((C.toList == [77, 105, 100, 78, 117, 109])) ((X.toList == [78, 117, 109, 101, 114, 105, 99])) ((F.toList == [78, 117, 109, 101, 114, 105, 99])) ((A.toList == [77, 105, 100, 78, 117, 109])) ((A.toList == [75, 97, 116, 97, 107, 97, 110, 97])) ((C.toList == [75, 97, 116, 97, 107, 97, 110, 97])) (oneB [[78, 117, 109, 101, 114, 105, 99], [75, 97, 116, 97, 107, 97, 110, 97], [74, 111, 105, 110, 101, 114]] A.toList) ((C.toList == [74, 111, 105, 110, 101, 114])) ((A.toList == [74, 111, 105, 110, 101, 114])) (oneB [[78, 117, 109, 101, 114, 105, 99], [75, 97, 116, 97, 107, 97, 110, 97]] C.toList) from rfl)
  have hv0 := Lib.hid (fun (W : World) => letter11_walk A W)
  generalize letterB A.toList = v0 at He hv0
  have hv1 := Lib.hid (fun (W : World) => letter11_walk C W)
  generalize letterB C.toList = v1 at He hv1
  obtain ⟨v2, hv2⟩ : ∃ v : Bool, (C.toList == [77, 105, 100, 76, 101, 116, 116, 101, 114]) = v := ⟨_, rfl⟩
  rw [hv2] at He
  have hv3 := Lib.hid (fun (W : World) => quote11_walk C W)
  generalize quoteB C.toList = v3 at He hv3
  have hv4 := Lib.hid (fun (W : World) => letter11_walk X W)
  generalize letterB X.toList = v4 at He hv4
  have hv5 := Lib.hid (fun (W : World) => letter11_walk F W)
  generalize letterB F.toList = v5 at He hv5
  obtain ⟨v6, hv6⟩ : ∃ v : Bool, (A.toList == [77, 105, 100, 76, 101, 116, 116, 101, 114]) = v := ⟨_, rfl⟩
  rw [hv6] at He
  have hv7 := Lib.hid (fun (W : World) => quote11_walk A W)
  generalize quoteB A.toList = v7 at He hv7
  obtain ⟨v8, hv8⟩ : ∃ v : Bool, (A.toList == [72, 101, 98, 114, 101, 119]) = v := ⟨_, rfl⟩
  rw [hv8] at He
  obtain ⟨v9, hv9⟩ : ∃ v : Bool, (C.toList == [83, 105, 110, 103, 108, 101, 81, 117, 111, 116, 101]) = v := ⟨_, rfl⟩
  rw [hv9] at He
  obtain ⟨v10, hv10⟩ : ∃ v : Bool, (C.toList == [68, 111, 117, 98, 108, 101, 81, 117, 111, 116, 101]) = v := ⟨_, rfl⟩
  rw [hv10] at He
  obtain ⟨v11, hv11⟩ : ∃ v : Bool, (X.toList == [72, 101, 98, 114, 101, 119]) = v := ⟨_, rfl⟩
  rw [hv11] at He
  obtain ⟨v12, hv12⟩ : ∃ v : Bool, (F.toList == [72, 101, 98, 114, 101, 119]) = v := ⟨_, rfl⟩
  rw [hv12] at He
  obtain ⟨v13, hv13⟩ : ∃ v : Bool, (A.toList == [68, 111, 117, 98, 108, 101, 81, 117, 111, 116, 101]) = v := ⟨_, rfl⟩
  rw [hv13] at He
  obtain ⟨v14, hv14⟩ : ∃ v : Bool, (C.toList == [72, 101, 98, 114, 101, 119]) = v := ⟨_, rfl⟩
  rw [hv14] at He
  obtain ⟨v15, hv15⟩ : ∃ v : Bool, (A.toList == [78, 117, 109, 101, 114, 105, 99]) = v := ⟨_, rfl⟩
  rw [hv15] at He
  obtain ⟨v16, hv16⟩ : ∃ v : Bool, (C.toList == [78, 117, 109, 101, 114, 105, 99]) = v := ⟨_, rfl⟩
  rw [hv16] at He
  obtain ⟨v17, hv17⟩ : ∃ v : Bool, (C.toList == [77, 105, 100, 78, 117, 109]) = v := ⟨_, rfl⟩
  rw [hv17] at He
  obtain ⟨v18, hv18⟩ : ∃ v : Bool, (X.toList == [78, 117, 109, 101, 114, 105, 99]) = v := ⟨_, rfl⟩
  rw [hv18] at He
  obtain ⟨v19, hv19⟩ : ∃ v : Bool, (F.toList == [78, 117, 109, 101, 114, 105, 99]) = v := ⟨_, rfl⟩
  rw [hv19] at He
  obtain ⟨v20, hv20⟩ : ∃ v : Bool, (A.toList == [77, 105, 100, 78, 117, 109]) = v := ⟨_, rfl⟩
  rw [hv20] at He
  obtain ⟨v21, hv21⟩ : ∃ v : Bool, (A.toList == [75, 97, 116, 97, 107, 97, 110, 97]) = v := ⟨_, rfl⟩
  rw [hv21] at He
  obtain ⟨v22, hv22⟩ : ∃ v : Bool, (C.toList == [75, 97, 116, 97, 107, 97, 110, 97]) = v := ⟨_, rfl⟩
  rw [hv22] at He
  have hv23 := Lib.hid (fun (W : World) => one11_3 W A [78, 117, 109, 101, 114, 105, 99] [75, 97, 116, 97, 107, 97, 110, 97] [74, 111, 105, 110, 101, 114])
  generalize oneB [[78, 117, 109, 101, 114, 105, 99], [75, 97, 116, 97, 107, 97, 110, 97], [74, 111, 105, 110, 101, 114]] A.toList = v23 at He hv23
  obtain ⟨v24, hv24⟩ : ∃ v : Bool, (C.toList == [74, 111, 105, 110, 101, 114]) = v := ⟨_, rfl⟩
  rw [hv24] at He
  obtain ⟨v25, hv25⟩ : ∃ v : Bool, (A.toList == [74, 111, 105, 110, 101, 114]) = v := ⟨_, rfl⟩
  rw [hv25] at He
  have hv26 := Lib.hid (fun (W : World) => one11_2 W C [78, 117, 109, 101, 114, 105, 99] [75, 97, 116, 97, 107, 97, 110, 97])
  generalize oneB [[78, 117, 109, 101, 114, 105, 99], [75, 97, 116, 97, 107, 97, 110, 97]] C.toList = v26 at He hv26
  go_enter Tryz.func81, Tryz.ntmps81
  go_upto_region 1 with fail
  go_cut [9] (fun c wx => c = .bool (v0 && v1) ∧ Below w.heap.size w wx)
  case first =>
    as_aux_lemma =>
    clear He 
    clear hv2 hv3 hv4 hv5 hv6 hv7 hv8 hv9 hv10 hv11 hv12 hv13 hv14 hv15 hv16 hv17 hv18 hv19 hv20 hv21 hv22 hv23 hv24 hv25 hv26
    go_wp2_with fail
    refine (hv0.out _).mono ?_
    rintro e w_ ⟨rfl, hb_⟩
    replace HS := Lib.hid (HS.out.trans (hb_.mono HS.out.size))
    clear hb_
    cases v0
    · skip
      go_wp2_with fail
      go_meet
      case rel => exact ⟨rfl, HS.out⟩
    · skip
      go_wp2_with fail
      refine (hv1.out _).mono ?_
      rintro e w_ ⟨rfl, hb_⟩
      replace HS := Lib.hid (HS.out.trans (hb_.mono HS.out.size))
      clear hb_
      cases v1
      · skip
        go_wp2_with fail
        go_meet
        case rel => exact ⟨rfl, HS.out⟩
      · skip
        go_wp2_with fail
        go_meet
        case rel => exact ⟨rfl, HS.out⟩
  case rest =>
  as_aux_lemma =>
  obtain ⟨rfl, hs_⟩ := hcut
  replace HS := Lib.hid hs_
  clear hs_
  obtain ⟨x, K1⟩ : ∃ x, Hid (x = (v0 && v1)) := ⟨_, rfl⟩
  rw [← K1.out]
  cases x; rotate_left
  · skip
    go_wp2_with fail
    go_ret
    exact ⟨by rw [He.out]; unfold joinedV; rw [← K1.out]; rfl, HS.out⟩
  go_upto_region 3 with fail
  go_cut [16] (fun c wx => c = .bool ((v0 && (v2 || v3)) && v4) ∧ Below w.heap.size w wx)
  case first =>
    as_aux_lemma =>
    clear He K1
    clear hv1 hv5 hv6 hv7 hv8 hv9 hv10 hv11 hv12 hv13 hv14 hv15 hv16 hv17 hv18 hv19 hv20 hv21 hv22 hv23 hv24 hv25 hv26
    go_wp2_with fail
    refine (hv0.out _).mono ?_
    rintro e w_ ⟨rfl, hb_⟩
    replace HS := Lib.hid (HS.out.trans (hb_.mono HS.out.size))
    clear hb_
    cases v0
    · skip
      go_wp2_with fail
      go_meet
      case rel => exact ⟨rfl, HS.out⟩
    · skip
      cases v2
      · skip
        go_wp2_with fail
        refine (hv3.out _).mono ?_
        rintro e w_ ⟨rfl, hb_⟩
        replace HS := Lib.hid (HS.out.trans (hb_.mono HS.out.size))
        clear hb_
        cases v3
        · skip
          go_wp2_with fail
          go_meet
          case rel => exact ⟨rfl, HS.out⟩
        · skip
          go_wp2_with fail
          refine (hv4.out _).mono ?_
          rintro e w_ ⟨rfl, hb_⟩
          replace HS := Lib.hid (HS.out.trans (hb_.mono HS.out.size))
          clear hb_
          cases v4
          · skip
            go_wp2_with fail
            go_meet
            case rel => exact ⟨rfl, HS.out⟩
          · skip
            go_wp2_with fail
            go_meet
            case rel => exact ⟨rfl, HS.out⟩
      · skip
        go_wp2_with fail
        refine (hv4.out _).mono ?_
        rintro e w_ ⟨rfl, hb_⟩
        replace HS := Lib.hid (HS.out.trans (hb_.mono HS.out.size))
        clear hb_
        cases v4
        · skip
          go_wp2_with fail
          go_meet
          case rel => exact ⟨rfl, HS.out⟩
        · skip
          go_wp2_with fail
          go_meet
          case rel => exact ⟨rfl, HS.out⟩
  case rest =>
  as_aux_lemma =>
  obtain ⟨rfl, hs_⟩ := hcut
  replace HS := Lib.hid hs_
  clear hs_
  obtain ⟨x, K3⟩ : ∃ x, Hid (x = ((v0 && (v2 || v3)) && v4)) := ⟨_, rfl⟩
  rw [← K3.out]
  cases x; rotate_left
  · skip
    go_wp2_with fail
    go_ret
    exact ⟨by rw [He.out]; unfold joinedV; rw [← K1.out, ← K3.out]; rfl, HS.out⟩
  go_upto_region 5 with fail
  go_cut [31] (fun c wx => c = .bool ((v5 && (v6 || v7)) && v1) ∧ Below w.heap.size w wx)
  case first =>
    as_aux_lemma =>
    clear He K1 K3
    clear hv0 hv2 hv3 hv4 hv8 hv9 hv10 hv11 hv12 hv13 hv14 hv15 hv16 hv17 hv18 hv19 hv20 hv21 hv22 hv23 hv24 hv25 hv26
    go_wp2_with fail
    refine (hv5.out _).mono ?_
    rintro e w_ ⟨rfl, hb_⟩
    replace HS := Lib.hid (HS.out.trans (hb_.mono HS.out.size))
    clear hb_
    cases v5
    · skip
      go_wp2_with fail
      go_meet
      case rel => exact ⟨rfl, HS.out⟩
    · skip
      cases v6
      · skip
        go_wp2_with fail
        refine (hv7.out _).mono ?_
        rintro e w_ ⟨rfl, hb_⟩
        replace HS := Lib.hid (HS.out.trans (hb_.mono HS.out.size))
        clear hb_
        cases v7
        · skip
          go_wp2_with fail
          go_meet
          case rel => exact ⟨rfl, HS.out⟩
        · skip
          go_wp2_with fail
          refine (hv1.out _).mono ?_
          rintro e w_ ⟨rfl, hb_⟩
          replace HS := Lib.hid (HS.out.trans (hb_.mono HS.out.size))
          clear hb_
          cases v1
          · skip
            go_wp2_with fail
            go_meet
            case rel => exact ⟨rfl, HS.out⟩
          · skip
            go_wp2_with fail
            go_meet
            case rel => exact ⟨rfl, HS.out⟩
      · skip
        go_wp2_with fail
        refine (hv1.out _).mono ?_
        rintro e w_ ⟨rfl, hb_⟩
        replace HS := Lib.hid (HS.out.trans (hb_.mono HS.out.size))
        clear hb_
        cases v1
        · skip
          go_wp2_with fail
          go_meet
          case rel => exact ⟨rfl, HS.out⟩
        · skip
          go_wp2_with fail
          go_meet
          case rel => exact ⟨rfl, HS.out⟩
  case rest =>
  as_aux_lemma =>
  obtain ⟨rfl, hs_⟩ := hcut
  replace HS := Lib.hid hs_
  clear hs_
  obtain ⟨x, K5⟩ : ∃ x, Hid (x = ((v5 && (v6 || v7)) && v1)) := ⟨_, rfl⟩
  rw [← K5.out]
  cases x; rotate_left
  · skip
    go_wp2_with fail
    go_ret
    exact ⟨by rw [He.out]; unfold joinedV; rw [← K1.out, ← K3.out, ← K5.out]; rfl, HS.out⟩
  go_upto_region 7 with fail
  go_cut [46] (fun c wx => c = .bool (v8 && v9) ∧ Below w.heap.size w wx)
  case first =>
    as_aux_lemma =>
    clear He K1 K3 K5
    clear hv0 hv1 hv2 hv3 hv4 hv5 hv6 hv7 hv10 hv11 hv12 hv13 hv14 hv15 hv16 hv17 hv18 hv19 hv20 hv21 hv22 hv23 hv24 hv25 hv26
    cases v8
    · skip
      go_wp2_with fail
      go_meet
      case rel => exact ⟨rfl, HS.out⟩
    · skip
      cases v9
      · skip
        go_wp2_with fail
        go_meet
        case rel => exact ⟨rfl, HS.out⟩
      · skip
        go_wp2_with fail
        go_meet
        case rel => exact ⟨rfl, HS.out⟩
  case rest =>
  as_aux_lemma =>
  obtain ⟨rfl, hs_⟩ := hcut
  replace HS := Lib.hid hs_
  clear hs_
  obtain ⟨x, K7⟩ : ∃ x, Hid (x = (v8 && v9)) := ⟨_, rfl⟩
  rw [← K7.out]
  cases x; rotate_left
  · skip
    go_wp2_with fail
    go_ret
    exact ⟨by rw [He.out]; unfold joinedV; rw [← K1.out, ← K3.out, ← K5.out, ← K7.out]; rfl, HS.out⟩
  go_upto_region 9 with fail
  go_cut [53] (fun c wx => c = .bool ((v8 && v10) && v11) ∧ Below w.heap.size w wx)
  case first =>
    as_aux_lemma =>
    clear He K1 K3 K5 K7
    clear hv0 hv1 hv2 hv3 hv4 hv5 hv6 hv7 hv9 hv12 hv13 hv14 hv15 hv16 hv17 hv18 hv19 hv20 hv21 hv22 hv23 hv24 hv25 hv26
    cases v8
    · skip
      go_wp2_with fail
      go_meet
      case rel => exact ⟨rfl, HS.out⟩
    · skip
      cases v10
      · skip
        go_wp2_with fail
        go_meet
        case rel => exact ⟨rfl, HS.out⟩
      · skip
        cases v11
        · skip
          go_wp2_with fail
          go_meet
          case rel => exact ⟨rfl, HS.out⟩
        · skip
          go_wp2_with fail
          go_meet
          case rel => exact ⟨rfl, HS.out⟩
  case rest =>
  as_aux_lemma =>
  obtain ⟨rfl, hs_⟩ := hcut
  replace HS := Lib.hid hs_
  clear hs_
  obtain ⟨x, K9⟩ : ∃ x, Hid (x = ((v8 && v10) && v11)) := ⟨_, rfl⟩
  rw [← K9.out]
  cases x; rotate_left
  · skip
    go_wp2_with fail
    go_ret
    exact ⟨by rw [He.out]; unfold joinedV; rw [← K1.out, ← K3.out, ← K5.out, ← K7.out, ← K9.out]; rfl, HS.out⟩
  go_upto_region 11 with fail
  go_cut [64] (fun c wx => c = .bool ((v12 && v13) && v14) ∧ Below w.heap.size w wx)
  case first =>
    as_aux_lemma =>
    clear He K1 K3 K5 K7 K9
    clear hv0 hv1 hv2 hv3 hv4 hv5 hv6 hv7 hv8 hv9 hv10 hv11 hv15 hv16 hv17 hv18 hv19 hv20 hv21 hv22 hv23 hv24 hv25 hv26
    cases v12
    · skip
      go_wp2_with fail
      go_meet
      case rel => exact ⟨rfl, HS.out⟩
    · skip
      cases v13
      · skip
        go_wp2_with fail
        go_meet
        case rel => exact ⟨rfl, HS.out⟩
      · skip
        cases v14
        · skip
          go_wp2_with fail
          go_meet
          case rel => exact ⟨rfl, HS.out⟩
        · skip
          go_wp2_with fail
          go_meet
          case rel => exact ⟨rfl, HS.out⟩
  case rest =>
  as_aux_lemma =>
  obtain ⟨rfl, hs_⟩ := hcut
  replace HS := Lib.hid hs_
  clear hs_
  obtain ⟨x, K11⟩ : ∃ x, Hid (x = ((v12 && v13) && v14)) := ⟨_, rfl⟩
  rw [← K11.out]
  cases x; rotate_left
  · skip
    go_wp2_with fail
    go_ret
    exact ⟨by rw [He.out]; unfold joinedV; rw [← K1.out, ← K3.out, ← K5.out, ← K7.out, ← K9.out, ← K11.out]; rfl, HS.out⟩
  go_upto_region 13 with fail
  go_cut [75] (fun c wx => c = .bool (((v15 || v0) && v16) || (v15 && v1)) ∧ Below w.heap.size w wx)
  case first =>
    as_aux_lemma =>
    clear He K1 K3 K5 K7 K9 K11
    clear hv2 hv3 hv4 hv5 hv6 hv7 hv8 hv9 hv10 hv11 hv12 hv13 hv14 hv17 hv18 hv19 hv20 hv21 hv22 hv23 hv24 hv25 hv26
    cases v15
    · skip
      go_wp2_with fail
      refine (hv0.out _).mono ?_
      rintro e w_ ⟨rfl, hb_⟩
      replace HS := Lib.hid (HS.out.trans (hb_.mono HS.out.size))
      clear hb_
      cases v0
      · skip
        go_wp2_with fail
        go_meet
        case rel => exact ⟨rfl, HS.out⟩
      · skip
        cases v16
        · skip
          go_wp2_with fail
          go_meet
          case rel => exact ⟨rfl, HS.out⟩
        · skip
          go_wp2_with fail
          go_meet
          case rel => exact ⟨rfl, HS.out⟩
    · skip
      cases v16
      · skip
        go_wp2_with fail
        refine (hv1.out _).mono ?_
        rintro e w_ ⟨rfl, hb_⟩
        replace HS := Lib.hid (HS.out.trans (hb_.mono HS.out.size))
        clear hb_
        cases v1
        · skip
          go_wp2_with fail
          go_meet
          case rel => exact ⟨rfl, HS.out⟩
        · skip
          go_wp2_with fail
          go_meet
          case rel => exact ⟨rfl, HS.out⟩
      · skip
        go_wp2_with fail
        go_meet
        case rel => exact ⟨rfl, HS.out⟩
  case rest =>
  as_aux_lemma =>
  obtain ⟨rfl, hs_⟩ := hcut
  replace HS := Lib.hid hs_
  clear hs_
  obtain ⟨x, K13⟩ : ∃ x, Hid (x = (((v15 || v0) && v16) || (v15 && v1))) := ⟨_, rfl⟩
  rw [← K13.out]
  cases x; rotate_left
  · skip
    go_wp2_with fail
    go_ret
    exact ⟨by rw [He.out]; unfold joinedV; rw [← K1.out, ← K3.out, ← K5.out, ← K7.out, ← K9.out, ← K11.out, ← K13.out]; rfl, HS.out⟩
  go_upto_region 15 with fail
  go_cut [94] (fun c wx => c = .bool ((v15 && (v17 || v3)) && v18) ∧ Below w.heap.size w wx)
  case first =>
    as_aux_lemma =>
    clear He K1 K3 K5 K7 K9 K11 K13
    clear hv0 hv1 hv2 hv4 hv5 hv6 hv7 hv8 hv9 hv10 hv11 hv12 hv13 hv14 hv16 hv19 hv20 hv21 hv22 hv23 hv24 hv25 hv26
    cases v15
    · skip
      go_wp2_with fail
      go_meet
      case rel => exact ⟨rfl, HS.out⟩
    · skip
      cases v17
      · skip
        go_wp2_with fail
        refine (hv3.out _).mono ?_
        rintro e w_ ⟨rfl, hb_⟩
        replace HS := Lib.hid (HS.out.trans (hb_.mono HS.out.size))
        clear hb_
        cases v3
        · skip
          go_wp2_with fail
          go_meet
          case rel => exact ⟨rfl, HS.out⟩
        · skip
          cases v18
          · skip
            go_wp2_with fail
            go_meet
            case rel => exact ⟨rfl, HS.out⟩
          · skip
            go_wp2_with fail
            go_meet
            case rel => exact ⟨rfl, HS.out⟩
      · skip
        cases v18
        · skip
          go_wp2_with fail
          go_meet
          case rel => exact ⟨rfl, HS.out⟩
        · skip
          go_wp2_with fail
          go_meet
          case rel => exact ⟨rfl, HS.out⟩
  case rest =>
  as_aux_lemma =>
  obtain ⟨rfl, hs_⟩ := hcut
  replace HS := Lib.hid hs_
  clear hs_
  obtain ⟨x, K15⟩ : ∃ x, Hid (x = ((v15 && (v17 || v3)) && v18)) := ⟨_, rfl⟩
  rw [← K15.out]
  cases x; rotate_left
  · skip
    go_wp2_with fail
    go_ret
    exact ⟨by rw [He.out]; unfold joinedV; rw [← K1.out, ← K3.out, ← K5.out, ← K7.out, ← K9.out, ← K11.out, ← K13.out, ← K15.out]; rfl, HS.out⟩
  go_upto_region 17 with fail
  go_cut [109] (fun c wx => c = .bool ((v19 && (v20 || v7)) && v16) ∧ Below w.heap.size w wx)
  case first =>
    as_aux_lemma =>
    clear He K1 K3 K5 K7 K9 K11 K13 K15
    clear hv0 hv1 hv2 hv3 hv4 hv5 hv6 hv8 hv9 hv10 hv11 hv12 hv13 hv14 hv15 hv17 hv18 hv21 hv22 hv23 hv24 hv25 hv26
    cases v19
    · skip
      go_wp2_with fail
      go_meet
      case rel => exact ⟨rfl, HS.out⟩
    · skip
      cases v20
      · skip
        go_wp2_with fail
        refine (hv7.out _).mono ?_
        rintro e w_ ⟨rfl, hb_⟩
        replace HS := Lib.hid (HS.out.trans (hb_.mono HS.out.size))
        clear hb_
        cases v7
        · skip
          go_wp2_with fail
          go_meet
          case rel => exact ⟨rfl, HS.out⟩
        · skip
          cases v16
          · skip
            go_wp2_with fail
            go_meet
            case rel => exact ⟨rfl, HS.out⟩
          · skip
            go_wp2_with fail
            go_meet
            case rel => exact ⟨rfl, HS.out⟩
      · skip
        cases v16
        · skip
          go_wp2_with fail
          go_meet
          case rel => exact ⟨rfl, HS.out⟩
        · skip
          go_wp2_with fail
          go_meet
          case rel => exact ⟨rfl, HS.out⟩
  case rest =>
  as_aux_lemma =>
  obtain ⟨rfl, hs_⟩ := hcut
  replace HS := Lib.hid hs_
  clear hs_
  obtain ⟨x, K17⟩ : ∃ x, Hid (x = ((v19 && (v20 || v7)) && v16)) := ⟨_, rfl⟩
  rw [← K17.out]
  cases x; rotate_left
  · skip
    go_wp2_with fail
    go_ret
    exact ⟨by rw [He.out]; unfold joinedV; rw [← K1.out, ← K3.out, ← K5.out, ← K7.out, ← K9.out, ← K11.out, ← K13.out, ← K15.out, ← K17.out]; rfl, HS.out⟩
  go_upto_region 19 with fail
  go_cut [124] (fun c wx => c = .bool (v21 && v22) ∧ Below w.heap.size w wx)
  case first =>
    as_aux_lemma =>
    clear He K1 K3 K5 K7 K9 K11 K13 K15 K17
    clear hv0 hv1 hv2 hv3 hv4 hv5 hv6 hv7 hv8 hv9 hv10 hv11 hv12 hv13 hv14 hv15 hv16 hv17 hv18 hv19 hv20 hv23 hv24 hv25 hv26
    cases v21
    · skip
      go_wp2_with fail
      go_meet
      case rel => exact ⟨rfl, HS.out⟩
    · skip
      cases v22
      · skip
        go_wp2_with fail
        go_meet
        case rel => exact ⟨rfl, HS.out⟩
      · skip
        go_wp2_with fail
        go_meet
        case rel => exact ⟨rfl, HS.out⟩
  case rest =>
  as_aux_lemma =>
  obtain ⟨rfl, hs_⟩ := hcut
  replace HS := Lib.hid hs_
  clear hs_
  obtain ⟨x, K19⟩ : ∃ x, Hid (x = (v21 && v22)) := ⟨_, rfl⟩
  rw [← K19.out]
  cases x; rotate_left
  · skip
    go_wp2_with fail
    go_ret
    exact ⟨by rw [He.out]; unfold joinedV; rw [← K1.out, ← K3.out, ← K5.out, ← K7.out, ← K9.out, ← K11.out, ← K13.out, ← K15.out, ← K17.out, ← K19.out]; rfl, HS.out⟩
  go_upto_region 21 with fail
  go_cut [131] (fun c wx => c = .bool ((v0 || v23) && v24) ∧ Below w.heap.size w wx)
  case first =>
    as_aux_lemma =>
    clear He K1 K3 K5 K7 K9 K11 K13 K15 K17 K19
    clear hv1 hv2 hv3 hv4 hv5 hv6 hv7 hv8 hv9 hv10 hv11 hv12 hv13 hv14 hv15 hv16 hv17 hv18 hv19 hv20 hv21 hv22 hv25 hv26
    go_wp2_with fail
    refine (hv0.out _).mono ?_
    rintro e w_ ⟨rfl, hb_⟩
    replace HS := Lib.hid (HS.out.trans (hb_.mono HS.out.size))
    clear hb_
    cases v0
    · skip
      go_wp2_with fail
      refine (hv23.out _).mono ?_
      rintro e w_ ⟨rfl, hb_⟩
      replace HS := Lib.hid (HS.out.trans (hb_.mono HS.out.size))
      clear hb_
      cases v23
      · skip
        go_wp2_with fail
        go_meet
        case rel => exact ⟨rfl, HS.out⟩
      · skip
        cases v24
        · skip
          go_wp2_with fail
          go_meet
          case rel => exact ⟨rfl, HS.out⟩
        · skip
          go_wp2_with fail
          go_meet
          case rel => exact ⟨rfl, HS.out⟩
    · skip
      cases v24
      · skip
        go_wp2_with fail
        go_meet
        case rel => exact ⟨rfl, HS.out⟩
      · skip
        go_wp2_with fail
        go_meet
        case rel => exact ⟨rfl, HS.out⟩
  case rest =>
  as_aux_lemma =>
  obtain ⟨rfl, hs_⟩ := hcut
  replace HS := Lib.hid hs_
  clear hs_
  obtain ⟨x, K21⟩ : ∃ x, Hid (x = ((v0 || v23) && v24)) := ⟨_, rfl⟩
  rw [← K21.out]
  cases x; rotate_left
  · skip
    go_wp2_with fail
    go_ret
    exact ⟨by rw [He.out]; unfold joinedV; rw [← K1.out, ← K3.out, ← K5.out, ← K7.out, ← K9.out, ← K11.out, ← K13.out, ← K15.out, ← K17.out, ← K19.out, ← K21.out]; rfl, HS.out⟩
  go_upto_region 23 with fail
  go_cut [143] (fun c wx => c = .bool (v25 && (v1 || v26)) ∧ Below w.heap.size w wx)
  case first =>
    as_aux_lemma =>
    clear He K1 K3 K5 K7 K9 K11 K13 K15 K17 K19 K21
    clear hv0 hv2 hv3 hv4 hv5 hv6 hv7 hv8 hv9 hv10 hv11 hv12 hv13 hv14 hv15 hv16 hv17 hv18 hv19 hv20 hv21 hv22 hv23 hv24
    cases v25
    · skip
      go_wp2_with fail
      go_meet
      case rel => exact ⟨rfl, HS.out⟩
    · skip
      go_wp2_with fail
      refine (hv1.out _).mono ?_
      rintro e w_ ⟨rfl, hb_⟩
      replace HS := Lib.hid (HS.out.trans (hb_.mono HS.out.size))
      clear hb_
      cases v1
      · skip
        go_wp2_with fail
        refine (hv26.out _).mono ?_
        rintro e w_ ⟨rfl, hb_⟩
        replace HS := Lib.hid (HS.out.trans (hb_.mono HS.out.size))
        clear hb_
        cases v26
        · skip
          go_wp2_with fail
          go_meet
          case rel => exact ⟨rfl, HS.out⟩
        · skip
          go_wp2_with fail
          go_meet
          case rel => exact ⟨rfl, HS.out⟩
      · skip
        go_wp2_with fail
        go_meet
        case rel => exact ⟨rfl, HS.out⟩
  case rest =>
  as_aux_lemma =>
  obtain ⟨rfl, hs_⟩ := hcut
  replace HS := Lib.hid hs_
  clear hs_
  obtain ⟨x, K23⟩ : ∃ x, Hid (x = (v25 && (v1 || v26))) := ⟨_, rfl⟩
  rw [← K23.out]
  cases x; rotate_left
  · skip
    go_wp2_with fail
    go_ret
    exact ⟨by rw [He.out]; unfold joinedV; rw [← K1.out, ← K3.out, ← K5.out, ← K7.out, ← K9.out, ← K11.out, ← K13.out, ← K15.out, ← K17.out, ← K19.out, ← K21.out, ← K23.out]; rfl, HS.out⟩
  go_wp2_with fail
  go_ret
  exact ⟨by rw [He.out]; unfold joinedV; rw [← K1.out, ← K3.out, ← K5.out, ← K7.out, ← K9.out, ← K11.out, ← K13.out, ← K15.out, ← K17.out, ← K19.out, ← K21.out, ← K23.out]; rfl, HS.out⟩
abbrev dsVE : List (Option Tmp) := [some 31, some 32, some 33, some 34, some 35, some 36, some 37, some 38, some 39, some 40, some 41, some 42, some 43, some 7, some 8]
abbrev needsVE : List (Nat × Nat) := [(3, 2), (4, 1), (4, 3), (5, 4), (6, 0), (6, 5), (10, 8), (10, 9), (11, 10), (12, 7), (12, 11), (13, 6), (14, 12)]
abbrev opsVE : List Op := [.move (.tmp 0), .move (.tmp 1), .move (.tmp 2), .binOp .sub 3 (.tmp 33) (.const (.int .i64 1)) 3, .indexAddr 22 (.tmp 32) (.tmp 34), .load 3 (.tmp 35), .call { callee := .value (.func 76), args := #[.tmp 31, .tmp 36], argTypes := #[25, 3] }, .move (.tmp 0), .move (.tmp 1), .move (.tmp 2), .indexAddr 22 (.tmp 39) (.tmp 40), .load 3 (.tmp 41), .call { callee := .value (.func 76), args := #[.tmp 38, .tmp 42], argTypes := #[25, 3] }, .assign (.tmp 37), .assign (.tmp 43)]
abbrev gsVE : List (Option (Nat × Bool)) := [none, none, none, none, none, none, none, none, none, none, none, none, none, none, none]
def relVE (B b i jn : Nat) (Φ : Files) (zs : List Int) (ad : Addr) (c : Nat) (x y : Int) : Nat → Value → World → Prop := fun kx vx W => match kx with
  | 0 => vx = .pointer (some ⟨b, 0, none⟩)
  | 1 => vx = .slice (some ad) zs.length c
  | 2 => vx = .int .i64 (jn : Nat)
  | 3 => vx = .int .i64 (i : Nat)
  | 4 => vx = .pointer (some (ad.add i))
  | 5 => vx = .int .i64 x
  | 6 => vx = .string ⟨(txOf Φ.word x []).toArray⟩
  | 7 => vx = .pointer (some ⟨b, 0, none⟩)
  | 8 => vx = .slice (some ad) zs.length c
  | 9 => vx = .int .i64 (jn : Nat)
  | 10 => vx = .pointer (some (ad.add jn))
  | 11 => vx = .int .i64 y
  | 12 => vx = .string ⟨(txOf Φ.word y []).toArray⟩
  | 13 => vx = .string ⟨(txOf Φ.word x []).toArray⟩
  | 14 => vx = .string ⟨(txOf Φ.word y []).toArray⟩
  | _ => True
set_option maxHeartbeats 1600000 in
theorem regionVE (a : Act) (ops : Array Oper) (rid : Nat) (Q : Exit → Act → World → Prop) (w : World) (B b i jn : Nat) (Φ : Files) (zs : List Int) (ad : Addr) (c : Nat) (x y : Int) (hops : ops.toList.map (·.op) = opsVE) (hgs : ops.toList.map (·.guard) = gsVE) (hok : dagOkG ops dsVE = true) (hnd : needsOk2 ops needsVE = true) (hsz : 44 ≤ a.tmps.size)
    (h0 : a.tmps.getD 0 undef = .pointer (some ⟨b, 0, none⟩))
    (h1 : a.tmps.getD 1 undef = .slice (some ad) zs.length c)
    (h2 : a.tmps.getD 2 undef = .int .i64 (jn : Nat))
    (hr : RefAt w B b Φ) (hfo : FilesOk Φ) (k0 : w.cell? (ad.add i) = some (.int .i64 x)) (k1 : w.cell? (ad.add jn) = some (.int .i64 y)) (hi : i < zs.length) (hi1 : jn < zs.length) (hn : zs.length ≤ 9223372036854775807) (a1 : IntKind.i64.wrap ((jn : Int) - 1) = i) (a2 : wrap64 ((jn : Int) - 1) = i)
    (hend : ∀ vs W, (fun W => Below w.heap.size w W) W → (∀ j, j < 15 → relVE B b i jn Φ zs ad c x y j (vs j) W) → Q .normal { a with tmps := frS (fun j => decide (j < 15)) vs 0 dsVE a.tmps } W) :
    (Code.region rid ops true).wp Tryz.prog Q a w := by
  have hlen : ops.size = 15 := by have := congrArg List.length hops; simpa using this
  have hop : ∀ (i : Nat) (o : Oper), ops[i]? = some o → ∀ x, opsVE[i]? = some x → o.op = x := by
    intro i o ho x hx
    rw [← hops, List.getElem?_map, Array.getElem?_toList, ho] at hx
    simpa using hx
  have hgu : ∀ (i : Nat) (o : Oper), ops[i]? = some o → ∀ x, gsVE[i]? = some x → o.guard = x := by
    intro i o ho x hx
    rw [← hgs, List.getElem?_map, Array.getElem?_toList, ho] at hx
    simpa using hx
  rw [← hlen] at hend
  refine wp_region_rel (by kernel_rfl) dsVE hok (fun t ht => Nat.lt_of_lt_of_le (of_decide_eq_true (List.all_eq_true.1 (show dsVE.all (fun d => match d with | some t => decide (t < 44) | none => true) = true from rfl) _ ht)) hsz) (relVE B b i jn Φ zs ad c x y) (fun W => Below w.heap.size w W) ?_ ?_ ?_ hend
  · intro i v W W' h hb
    unfold relVE at h ⊢
    split at h
    · exact h
    · exact h
    · exact h
    · exact h
    · exact h
    · exact h
    · exact h
    · exact h
    · exact h
    · exact h
    · exact h
    · exact h
    · exact h
    · exact h
    · exact h
    · exact h
  · exact ⟨rfl, rfl, rfl, Nat.le_refl _, fun _ _ => rfl⟩
  intro kx o ho ρ W hb hρ hold hold2 hcon hfun _
  have hkx : kx < 15 := by rw [← hlen]; exact (Array.getElem?_eq_some_iff.1 ho).1
  have e0 : ρ (.tmp 0) = .pointer (some ⟨b, 0, none⟩) := (hold 0 (by decide)).trans h0
  have e1 : ρ (.tmp 1) = .slice (some ad) zs.length c := (hold 1 (by decide)).trans h1
  have e2 : ρ (.tmp 2) = .int .i64 (jn : Nat) := (hold 2 (by decide)).trans h2
  match kx, hkx with
  | 0, _ =>
    have hg := hgu 0 o ho _ rfl
    have ho' := hop 0 o ho _ rfl
    simp only [hg]
    exact .inl ⟨_, rfl, .inl (by unfold execOp; rw [ho']; go_simp)⟩
  | 1, _ =>
    have hg := hgu 1 o ho _ rfl
    have ho' := hop 1 o ho _ rfl
    simp only [hg]
    exact .inl ⟨_, rfl, .inl (by unfold execOp; rw [ho']; go_simp)⟩
  | 2, _ =>
    have hg := hgu 2 o ho _ rfl
    have ho' := hop 2 o ho _ rfl
    simp only [hg]
    exact .inl ⟨_, rfl, .inl (by unfold execOp; rw [ho']; go_simp)⟩
  | 3, _ =>
    have hg := hgu 3 o ho _ rfl
    have ho' := hop 3 o ho _ rfl
    simp only [hg]
    have q33 : ρ (.tmp 33) = .int .i64 (jn : Nat) := hρ 2 (needs2_get hnd 3 2 (by decide)) 33 rfl
    exact .inl ⟨_, rfl, .inl (by unfold execOp; rw [ho']; go_simp)⟩
  | 4, _ =>
    have hg := hgu 4 o ho _ rfl
    have ho' := hop 4 o ho _ rfl
    simp only [hg]
    have q32 : ρ (.tmp 32) = .slice (some ad) zs.length c := hρ 1 (needs2_get hnd 4 1 (by decide)) 32 rfl
    have q34 : ρ (.tmp 34) = .int .i64 (i : Nat) := hρ 3 (needs2_get hnd 4 3 (by decide)) 34 rfl
    exact .inl ⟨_, rfl, .inl (by unfold execOp; rw [ho']; go_simp)⟩
  | 5, _ =>
    have hg := hgu 5 o ho _ rfl
    have ho' := hop 5 o ho _ rfl
    simp only [hg]
    have q35 : ρ (.tmp 35) = .pointer (some (ad.add i)) := hρ 4 (needs2_get hnd 5 4 (by decide)) 35 rfl
    have c0 := cell_later hb k0
    exact .inl ⟨_, rfl, .inl (by unfold execOp; rw [ho']; go_simp)⟩
  | 6, _ =>
    have hg := hgu 6 o ho _ rfl
    have ho' := hop 6 o ho _ rfl
    simp only [hg]
    have q31 : ρ (.tmp 31) = .pointer (some ⟨b, 0, none⟩) := hρ 0 (needs2_get hnd 6 0 (by decide)) 31 rfl
    have q36 : ρ (.tmp 36) = .int .i64 x := hρ 5 (needs2_get hnd 6 5 (by decide)) 36 rfl
    refine .inr (.inr ⟨76, #[.pointer (some ⟨b, 0, none⟩), .int .i64 x], ?_, ?_⟩)
    · unfold execOp
      rw [ho']
      simp [go_sem, hfun, q31, q36, resolve, Act.eval]
    · refine (word_ref (hr.below hb) hfo x).mono ?_
      rintro e W' ⟨rfl, hb'⟩
      exact ⟨_, rfl, hb.trans (hb'.mono hb.size), hb', rfl⟩
  | 7, _ =>
    have hg := hgu 7 o ho _ rfl
    have ho' := hop 7 o ho _ rfl
    simp only [hg]
    exact .inl ⟨_, rfl, .inl (by unfold execOp; rw [ho']; go_simp)⟩
  | 8, _ =>
    have hg := hgu 8 o ho _ rfl
    have ho' := hop 8 o ho _ rfl
    simp only [hg]
    exact .inl ⟨_, rfl, .inl (by unfold execOp; rw [ho']; go_simp)⟩
  | 9, _ =>
    have hg := hgu 9 o ho _ rfl
    have ho' := hop 9 o ho _ rfl
    simp only [hg]
    exact .inl ⟨_, rfl, .inl (by unfold execOp; rw [ho']; go_simp)⟩
  | 10, _ =>
    have hg := hgu 10 o ho _ rfl
    have ho' := hop 10 o ho _ rfl
    simp only [hg]
    have q39 : ρ (.tmp 39) = .slice (some ad) zs.length c := hρ 8 (needs2_get hnd 10 8 (by decide)) 39 rfl
    have q40 : ρ (.tmp 40) = .int .i64 (jn : Nat) := hρ 9 (needs2_get hnd 10 9 (by decide)) 40 rfl
    exact .inl ⟨_, rfl, .inl (by unfold execOp; rw [ho']; go_simp)⟩
  | 11, _ =>
    have hg := hgu 11 o ho _ rfl
    have ho' := hop 11 o ho _ rfl
    simp only [hg]
    have q41 : ρ (.tmp 41) = .pointer (some (ad.add jn)) := hρ 10 (needs2_get hnd 11 10 (by decide)) 41 rfl
    have c0 := cell_later hb k1
    exact .inl ⟨_, rfl, .inl (by unfold execOp; rw [ho']; go_simp)⟩
  | 12, _ =>
    have hg := hgu 12 o ho _ rfl
    have ho' := hop 12 o ho _ rfl
    simp only [hg]
    have q38 : ρ (.tmp 38) = .pointer (some ⟨b, 0, none⟩) := hρ 7 (needs2_get hnd 12 7 (by decide)) 38 rfl
    have q42 : ρ (.tmp 42) = .int .i64 y := hρ 11 (needs2_get hnd 12 11 (by decide)) 42 rfl
    refine .inr (.inr ⟨76, #[.pointer (some ⟨b, 0, none⟩), .int .i64 y], ?_, ?_⟩)
    · unfold execOp
      rw [ho']
      simp [go_sem, hfun, q38, q42, resolve, Act.eval]
    · refine (word_ref (hr.below hb) hfo y).mono ?_
      rintro e W' ⟨rfl, hb'⟩
      exact ⟨_, rfl, hb.trans (hb'.mono hb.size), hb', rfl⟩
  | 13, _ =>
    have hg := hgu 13 o ho _ rfl
    have ho' := hop 13 o ho _ rfl
    simp only [hg]
    have q37 : ρ (.tmp 37) = .string ⟨(txOf Φ.word x []).toArray⟩ := hρ 6 (needs2_get hnd 13 6 (by decide)) 37 rfl
    exact .inl ⟨_, rfl, .inl (by unfold execOp; rw [ho']; go_simp)⟩
  | 14, _ =>
    have hg := hgu 14 o ho _ rfl
    have ho' := hop 14 o ho _ rfl
    simp only [hg]
    have q43 : ρ (.tmp 43) = .string ⟨(txOf Φ.word y []).toArray⟩ := hρ 12 (needs2_get hnd 14 12 (by decide)) 43 rfl
    exact .inl ⟨_, rfl, .inl (by unfold execOp; rw [ho']; go_simp)⟩
set_option maxRecDepth 100000 in
set_option maxHeartbeats 6400000 in
theorem edge11_walk {w : World} {B b : Nat} {Φ : Files} {zs : List Int} {v : Value} (hr : RefAt w B b Φ) (hok : FilesOk Φ) (hl : ListAt w v zs) (p : Int) (hp : (Lit.int .i64 p).wf = true) :
    Calls Tryz.prog 31 #[.pointer (some ⟨b, 0, none⟩), v, .int .i64 p] w fun e w' => e = .returned (.bool (edgeW (wOf Φ zs) zs.length p)) ∧ Below w.heap.size w w' := by
  have HS := Lib.hid (show KSt w w B b Φ zs v from ⟨Below.refl _ _, hr, hl⟩)
  obtain ⟨A0, c0, rfl, hn, hz⟩ := hl
  clear hr hz
  go_enter Tryz.func31, Tryz.ntmps31
  by_cases hend : zs.length = 0 ∨ p < 0 ∨ (zs.length : Int) < p
  · have He := Lib.hid (show edgeW (wOf Φ zs) zs.length p = false by unfold edgeW; rw [if_pos hend])
    go_wp2_with fail
    all_goals
      first
        | (go_ret; refine ⟨?_, HS.out.bel⟩; rw [He.out]; rfl)
        | (exfalso; (try simp only [beq_eq_false_iff_ne, beq_iff_eq, ne_eq, decide_eq_false_iff_not, decide_eq_true_eq] at *); omega)
  have g1 : ((zs.length : Int) == 0) = false := by rw [beq_eq_false_iff_ne]; omega
  have g2 : decide (p < 0) = false := by simp; omega
  have g3 : decide (p > (zs.length : Int)) = false := by simp; omega
  by_cases hedge : p = 0 ∨ p = zs.length
  · have He := Lib.hid (show edgeW (wOf Φ zs) zs.length p = true by unfold edgeW; rw [if_neg hend, if_pos hedge])
    clear hend
    go_wp2_with fail
    all_goals
      first
        | (go_ret; refine ⟨?_, HS.out.bel⟩; rw [He.out]; rfl)
        | (exfalso; (try simp only [beq_eq_false_iff_ne, beq_iff_eq, ne_eq, decide_eq_false_iff_not, decide_eq_true_eq] at *); omega)
  have g4 : (p == 0) = false := by rw [beq_eq_false_iff_ne]; omega
  have g5 : (p == (zs.length : Int)) = false := by rw [beq_eq_false_iff_ne]; omega
  have He := Lib.hid (show edgeW (wOf Φ zs) zs.length p = midW (wOf Φ zs) zs.length p (wOf Φ zs (p - 1)) (wOf Φ zs p) by unfold edgeW; rw [if_neg hend, if_neg hedge])
  have HAh := Lib.hid (fun W (h : KSt w W B b Φ zs (.slice A0 zs.length c0)) => ahead_walk h.ref hok h.list p (by omega) (by omega))
  have HBh := Lib.hid (fun W (h : KSt w W B b Φ zs (.slice A0 zs.length c0)) => behind_walk h.ref hok h.list p (by omega) (by omega))
  have HF := Lib.hid (fun W (h : KSt w W B b Φ zs (.slice A0 zs.length c0)) => flags11_walk h.ref hok h.list p (by omega) (by omega))
  have HW := Lib.hid (fun W (j : Int) (h : KSt w W B b Φ zs (.slice A0 zs.length c0)) (hj : j < zs.length) => word11_walk h.ref hok h.list j hj)
  have HBe := Lib.hid (fun W (j : Int) (h : KSt w W B b Φ zs (.slice A0 zs.length c0)) (hj : j < zs.length) => before_walk h.ref hok h.list j hj)
  obtain ⟨j, rfl⟩ := Int.eq_ofNat_of_zero_le (show 0 ≤ p by omega)
  obtain ⟨i, hip⟩ : ∃ i : Nat, j = i + 1 := ⟨j - 1, by omega⟩
  have hi : i < zs.length := by omega
  have hi1 : j < zs.length := by omega
  obtain ⟨ad, rfl, k0⟩ := HS.out.list.cellN i hi
  obtain ⟨ad', e, k1⟩ := HS.out.list.cellN j hi1
  cases e
  have a1 : IntKind.i64.wrap ((j : Int) - 1) = i := by rw [IntKind.wrap_i64]; omega
  have a2 : wrap64 ((j : Int) - 1) = i := by unfold wrap64; omega
  have Hx := Lib.hid (show wOf Φ zs ((j : Int) - 1) = txOf Φ.word (zs.getD i 0) [] by rw [wOf_at Φ zs i hi]; congr 1; omega)
  have Hy := Lib.hid (show wOf Φ zs (j : Int) = txOf Φ.word (zs.getD j 0) [] by rw [wOf_at Φ zs j hi1])
  clear hend hedge hp hip
  generalize zs.getD i 0 = x at *
  generalize zs.getD j 0 = y at *
  go_wp2_with fail
  refine regionVE _ _ _ _ _ B b i j Φ zs ad c0 x y rfl rfl (by kernel_rfl) (by kernel_rfl) (by first | simp | exact Nat.le_refl _ | decide) rfl rfl rfl HS.out.ref hok k0 k1 hi hi1 hn a1 a2 ?_
  intro V W_ hb_ hV
  have hVa : V 13 = .string ⟨(txOf Φ.word x []).toArray⟩ := hV 13 (by decide)
  have hVb : V 14 = .string ⟨(txOf Φ.word y []).toArray⟩ := hV 14 (by decide)
  simp [frS, stepS, Exit.then]
  rw [hVa, hVb]
  replace HS := Lib.hid (HS.out.next hb_)
  clear hb_ hV hVa hVb k0 k1
  obtain ⟨A, hA⟩ : ∃ S : ByteArray, S = ⟨(txOf Φ.word x []).toArray⟩ := ⟨_, rfl⟩
  obtain ⟨C, hC⟩ : ∃ S : ByteArray, S = ⟨(txOf Φ.word y []).toArray⟩ := ⟨_, rfl⟩
  have HA := Lib.hid (show A.toList = txOf Φ.word x [] by rw [hA]; exact toBl _)
  have HC := Lib.hid (show C.toList = txOf Φ.word y [] by rw [hC]; exact toBl _)
  rw [← hA, ← hC]
  rw [Hx.out, Hy.out, ← HA.out, ← HC.out] at He
  clear hA hC HA HC Hx Hy g1 g2 g3 g4 g5
  go_upto_region 6 with fail
  go_cut [44] (fun c wx => c = .bool (A.toList == [67, 82] && C.toList == [76, 70]) ∧ KSt w wx B b Φ zs (.slice (some ad) zs.length c0))
  case first =>
    cases q1 : (A.toList == [67, 82])
    · skip
      go_wp2_with fail
      go_meet
      case rel => exact ⟨by rw [q1]; rfl, HS.out⟩
    · cases q2 : (C.toList == [76, 70])
      · skip
        go_wp2_with fail
        go_meet
        case rel => exact ⟨by rw [q1, q2]; rfl, HS.out⟩
      · skip
        go_wp2_with fail
        go_meet
        case rel => exact ⟨by rw [q1, q2]; rfl, HS.out⟩
  case rest =>
  obtain ⟨rfl, hs_⟩ := hcut
  replace HS := Lib.hid hs_
  clear hs_
  obtain ⟨x, K1⟩ : ∃ x, Hid (x = (A.toList == [67, 82] && C.toList == [76, 70])) := ⟨_, rfl⟩
  rw [← K1.out]
  cases x; rotate_left
  · skip
    go_wp2_with fail
    go_ret
    exact ⟨by rw [He.out]; unfold midW; rw [← K1.out]; rfl, HS.out.bel⟩
  go_upto_region 8 with fail
  go_cut [51] (fun c wx => c = .bool (lineB A.toList || lineB C.toList) ∧ KSt w wx B b Φ zs (.slice (some ad) zs.length c0))
  case first =>
    go_wp2_with fail
    refine (one11_3 _ A _ _ _).mono ?_
    rintro e w_ ⟨rfl, hb_⟩
    replace HS := Lib.hid (HS.out.next hb_)
    clear hb_
    rw [three_or, show (A.toList == [78, 101, 119, 108, 105, 110, 101] || A.toList == [67, 82] || A.toList == [76, 70]) = lineB A.toList from rfl]
    cases q1 : lineB A.toList
    · skip
      go_wp2_with fail
      refine (one11_3 _ C _ _ _).mono ?_
      rintro e w_ ⟨rfl, hb_⟩
      replace HS := Lib.hid (HS.out.next hb_)
      clear hb_
      rw [three_or, show (C.toList == [78, 101, 119, 108, 105, 110, 101] || C.toList == [67, 82] || C.toList == [76, 70]) = lineB C.toList from rfl]
      go_wp2_with fail
      go_meet
      case rel => exact ⟨by rw [q1, Bool.false_or], HS.out⟩
    · skip
      go_wp2_with fail
      go_meet
      case rel => exact ⟨by rw [q1]; rfl, HS.out⟩
  case rest =>
  obtain ⟨rfl, hs_⟩ := hcut
  replace HS := Lib.hid hs_
  clear hs_
  obtain ⟨x, K2⟩ : ∃ x, Hid (x = (lineB A.toList || lineB C.toList)) := ⟨_, rfl⟩
  rw [← K2.out]
  cases x; rotate_left
  · skip
    go_wp2_with fail
    go_ret
    exact ⟨by rw [He.out]; unfold midW; rw [← K1.out, ← K2.out]; rfl, HS.out.bel⟩
  go_upto_region 10 with fail
  go_cut [60] (fun c wx => c = .bool (A.toList == [90, 87, 74] && C.toList == [80, 105, 99, 116, 111, 103, 114, 97, 112, 104, 105, 99]) ∧ KSt w wx B b Φ zs (.slice (some ad) zs.length c0))
  case first =>
    cases q1 : (A.toList == [90, 87, 74])
    · skip
      go_wp2_with fail
      go_meet
      case rel => exact ⟨by rw [q1]; rfl, HS.out⟩
    · cases q2 : (C.toList == [80, 105, 99, 116, 111, 103, 114, 97, 112, 104, 105, 99])
      · skip
        go_wp2_with fail
        go_meet
        case rel => exact ⟨by rw [q1, q2]; rfl, HS.out⟩
      · skip
        go_wp2_with fail
        go_meet
        case rel => exact ⟨by rw [q1, q2]; rfl, HS.out⟩
  case rest =>
  obtain ⟨rfl, hs_⟩ := hcut
  replace HS := Lib.hid hs_
  clear hs_
  obtain ⟨x, K3⟩ : ∃ x, Hid (x = (A.toList == [90, 87, 74] && C.toList == [80, 105, 99, 116, 111, 103, 114, 97, 112, 104, 105, 99])) := ⟨_, rfl⟩
  rw [← K3.out]
  cases x; rotate_left
  · skip
    go_wp2_with fail
    go_ret
    exact ⟨by rw [He.out]; unfold midW; rw [← K1.out, ← K2.out, ← K3.out]; rfl, HS.out.bel⟩
  go_upto_region 12 with fail
  go_cut [67] (fun c wx => c = .bool (A.toList == [83, 112, 97, 99, 101] && C.toList == [83, 112, 97, 99, 101]) ∧ KSt w wx B b Φ zs (.slice (some ad) zs.length c0))
  case first =>
    cases q1 : (A.toList == [83, 112, 97, 99, 101])
    · skip
      go_wp2_with fail
      go_meet
      case rel => exact ⟨by rw [q1]; rfl, HS.out⟩
    · cases q2 : (C.toList == [83, 112, 97, 99, 101])
      · skip
        go_wp2_with fail
        go_meet
        case rel => exact ⟨by rw [q1, q2]; rfl, HS.out⟩
      · skip
        go_wp2_with fail
        go_meet
        case rel => exact ⟨by rw [q1, q2]; rfl, HS.out⟩
  case rest =>
  obtain ⟨rfl, hs_⟩ := hcut
  replace HS := Lib.hid hs_
  clear hs_
  obtain ⟨x, K4⟩ : ∃ x, Hid (x = (A.toList == [83, 112, 97, 99, 101] && C.toList == [83, 112, 97, 99, 101])) := ⟨_, rfl⟩
  rw [← K4.out]
  cases x; rotate_left
  · skip
    go_wp2_with fail
    go_ret
    exact ⟨by rw [He.out]; unfold midW; rw [← K1.out, ← K2.out, ← K3.out, ← K4.out]; rfl, HS.out.bel⟩
  go_upto_region 14 with fail
  go_cut [74] (fun c wx => c = .bool (passedB C.toList) ∧ KSt w wx B b Φ zs (.slice (some ad) zs.length c0))
  case first =>
    go_wp2_with fail
    refine (passed11_walk C _).mono ?_
    rintro e w_ ⟨rfl, hb_⟩
    replace HS := Lib.hid (HS.out.next hb_)
    clear hb_
    go_wp2_with fail
    go_meet
    case rel => exact ⟨rfl, HS.out⟩
  case rest =>
  obtain ⟨rfl, hs_⟩ := hcut
  replace HS := Lib.hid hs_
  clear hs_
  obtain ⟨x, K5⟩ : ∃ x, Hid (x = (passedB C.toList)) := ⟨_, rfl⟩
  rw [← K5.out]
  cases x; rotate_left
  · skip
    go_wp2_with fail
    go_ret
    exact ⟨by rw [He.out]; unfold midW; rw [← K1.out, ← K2.out, ← K3.out, ← K4.out, ← K5.out]; rfl, HS.out.bel⟩
  go_wp2_with fail
  refine (HAh.out _ HS.out).mono ?_
  rintro e w_ ⟨rfl, hb_⟩
  replace HS := Lib.hid (HS.out.next hb_)
  clear hb_
  obtain ⟨iv, HIv⟩ : ∃ iv, Hid (iv = stepB (wOf Φ zs) zs.length (j : Int)) := ⟨_, rfl⟩
  have hivl : iv < zs.length := by rw [HIv.out]; unfold stepB; exact stopAt_lt _ _ _
  rw [← HIv.out]
  rw [← HIv.out] at HF
  go_wp2_with fail
  refine (HW.out _ iv HS.out hivl).mono ?_
  rintro e w_ ⟨rfl, hb_⟩
  replace HS := Lib.hid (HS.out.next hb_)
  clear hb_
  obtain ⟨D, hD⟩ : ∃ S : ByteArray, S = ⟨(wOf Φ zs iv).toArray⟩ := ⟨_, rfl⟩
  have HD := Lib.hid (show D.toList = wOf Φ zs iv by rw [hD]; exact toBl _)
  rw [← hD]
  clear hD
  go_wp2_with fail
  refine (HBe.out _ iv HS.out hivl).mono ?_
  rintro e w_ ⟨rfl, hb_⟩
  replace HS := Lib.hid (HS.out.next hb_)
  clear hb_
  obtain ⟨F, hF⟩ : ∃ S : ByteArray, S = ⟨(wOf Φ zs (farOf (wOf Φ zs) zs.length iv)).toArray⟩ := ⟨_, rfl⟩
  have HFar := Lib.hid (show F.toList = wOf Φ zs (farOf (wOf Φ zs) zs.length iv) by rw [hF]; exact toBl _)
  rw [← hF]
  clear hF
  go_wp2_with fail
  refine (HBh.out _ HS.out).mono ?_
  rintro e w_ ⟨rfl, hb_⟩
  replace HS := Lib.hid (HS.out.next hb_)
  clear hb_
  have hfl : stepF (wOf Φ zs) zs.length (j : Int) < zs.length := by unfold stepF; exact stopAt_lt _ _ _
  obtain ⟨fv, HFv⟩ : ∃ fv, Hid (fv = stepF (wOf Φ zs) zs.length (j : Int)) := ⟨_, rfl⟩
  rw [← HFv.out] at hfl
  rw [← HFv.out]
  go_wp2_with fail
  refine (HW.out _ fv HS.out hfl).mono ?_
  rintro e w_ ⟨rfl, hb_⟩
  replace HS := Lib.hid (HS.out.next hb_)
  clear hb_
  obtain ⟨X, hX⟩ : ∃ S : ByteArray, S = ⟨(wOf Φ zs fv).toArray⟩ := ⟨_, rfl⟩
  have HX := Lib.hid (show X.toList = wOf Φ zs fv by rw [hX]; exact toBl _)
  rw [← hX]
  clear hX
  go_wp2_with fail
  refine (joined11_walk _ F D C X).mono ?_
  rintro e w_ ⟨rfl, hb_⟩
  replace HS := Lib.hid (HS.out.next hb_)
  clear hb_
  rw [joinedR_eq]
  obtain ⟨x6, K6⟩ : ∃ x, Hid (x = joinedB F.toList D.toList C.toList X.toList) := ⟨_, rfl⟩
  have K6' := Lib.hid (show x6 = joinedB (wOf Φ zs (farOf (wOf Φ zs) zs.length iv)) (wOf Φ zs iv) C.toList (wOf Φ zs fv) by rw [K6.out, HFar.out, HD.out, HX.out])
  rw [← K6.out]
  clear K6
  cases x6; rotate_left
  · skip
    go_wp2_with fail
    go_ret
    exact ⟨by rw [He.out]; unfold midW; rw [← K1.out, ← K2.out, ← K3.out, ← K4.out, ← K5.out, ← HIv.out, ← HFv.out, ← K6'.out]; rfl, HS.out.bel⟩
  cases q9 : (C.toList == [70, 108, 97, 103])
  · skip
    go_wp2_with fail
    go_ret
    exact ⟨by rw [He.out]; unfold midW; rw [← K1.out, ← K2.out, ← K3.out, ← K4.out, ← K5.out, ← HIv.out, ← HFv.out, ← K6'.out, q9]; rfl, HS.out.bel⟩
  have Hlast := Lib.hid (show edgeW (wOf Φ zs) zs.length (j : Int) = (flagsW (wOf Φ zs) zs.length iv % 2 == 0) by rw [He.out]; unfold midW; rw [← K1.out, ← K2.out, ← K3.out, ← K4.out, ← K5.out, ← HIv.out, ← HFv.out, ← K6'.out, q9]; rfl)
  generalize flagsW (wOf Φ zs) zs.length iv = nf at *
  go_wp2_with fail
  refine (HF.out _ HS.out).mono ?_
  rintro e w_ ⟨rfl, hb_⟩
  replace HS := Lib.hid (HS.out.next hb_)
  clear hb_
  have hm : (!((((nf : Nat) : Int) % 2) == 1)) = (nf % 2 == 0) := by
    by_cases h2 : nf % 2 = 0
    · rw [beq_iff_eq.2 h2, beq_eq_false_iff_ne.2 (show ((nf : Nat) : Int) % 2 ≠ 1 by omega)]; rfl
    · rw [beq_eq_false_iff_ne.2 h2, beq_iff_eq.2 (show ((nf : Nat) : Int) % 2 = 1 by omega)]; rfl
  go_wp2_with fail
  all_goals
    go_ret
    exact ⟨by rw [Hlast.out, ← hm]; simp_all, HS.out.bel⟩
end Go.Proofs.YtkgomgfhfoomhaaGreatDoor
