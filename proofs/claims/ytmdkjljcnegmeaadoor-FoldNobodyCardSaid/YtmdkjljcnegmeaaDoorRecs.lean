/- What holds of the files' records, by the kernel. -/
import Derived.Test.YtmdkjljcnegmeaaDoorTexts
import Derived.Test.YtmdkjljcnegmeaaDoorTab
namespace Go.Proofs.YtmdkjljcnegmeaaDoor
open Go.RowKit
set_option linter.unusedVariables false

def recOkB (r : Rec) : Bool := decide (r.lo ≤ r.hi) && decide (r.hi ≤ 1114111) && !r.fields.isEmpty
def goodRecs (f : Func) : Bool := decide (0 < (recsOf f).length) && decide ((recsOf f).length ≤ 100000) && (recsOf f).all recOkB
theorem recOk_of {r : Rec} (h : recOkB r = true) : RecOk r := by
  unfold recOkB at h
  simp only [Bool.and_eq_true, decide_eq_true_eq, Bool.not_eq_true', List.isEmpty_eq_false_iff] at h
  exact ⟨h.1.1, h.1.2, h.2⟩
theorem recs_of {f : Func} (h : goodRecs f = true) : ListOk (recsOf f) := by
  unfold goodRecs at h
  simp only [Bool.and_eq_true, decide_eq_true_eq, List.all_eq_true] at h
  exact ⟨h.1.1, h.1.2, fun r hr => recOk_of (h.2 r hr)⟩
def asciiB (s : Sp.Str) : Bool := s.all fun b => decide (b.toNat < 128)
def decOkB (r : Rec) : Bool := asciiB (fld0 r) && decide ((fld0 r).length < 1000)
def foldOkB (r : Rec) : Bool := decide (2 ≤ r.fields.length) && asciiB (fld1 r) && decide ((fld1 r).length < 1000) && !(Sp.pts (fld1 r)).isEmpty
def goodDec (f : Func) : Bool := goodRecs f && (recsOf f).all decOkB
def goodFold (f : Func) : Bool := goodRecs f && (recsOf f).all foldOkB
theorem dec_of {f : Func} (h : goodDec f = true) : goodRecs f = true ∧ ∀ r ∈ recsOf f, DecOk r := by
  unfold goodDec at h
  simp only [Bool.and_eq_true, List.all_eq_true] at h
  refine ⟨h.1, fun r hr => ?_⟩
  have h2 := h.2 r hr
  unfold decOkB asciiB at h2
  simp only [Bool.and_eq_true, List.all_eq_true, decide_eq_true_eq] at h2
  exact ⟨(recs_of h.1).ok r hr, h2.1, h2.2⟩
theorem fold_of {f : Func} (h : goodFold f = true) : goodRecs f = true ∧ ∀ r ∈ recsOf f, FoldOk r := by
  unfold goodFold at h
  simp only [Bool.and_eq_true, List.all_eq_true] at h
  refine ⟨h.1, fun r hr => ?_⟩
  have h2 := h.2 r hr
  unfold foldOkB asciiB at h2
  simp only [Bool.and_eq_true, List.all_eq_true, decide_eq_true_eq, Bool.not_eq_true', List.isEmpty_eq_false_iff] at h2
  obtain ⟨⟨⟨h3, h4⟩, h5⟩, h6⟩ := h2
  obtain ⟨h7, h8, _⟩ := (recs_of h.1).ok r hr
  refine ⟨h7, h8, ?_, h4, h5, h6⟩
  match hf : r.fields, h3 with
  | a :: b :: l, _ => exact ⟨a, b, l, rfl⟩
theorem recs_categories : goodRecs Tryd.f21 = true := by kernel_rfl
theorem recs_combining : goodRecs Tryd.f22 = true := by kernel_rfl
theorem recs_scripts : goodRecs Tryd.f23 = true := by kernel_rfl
theorem recs_clusters : goodRecs Tryd.f24 = true := by kernel_rfl
theorem recs_words : goodRecs Tryd.f25 = true := by kernel_rfl
theorem recs_decompositions : goodDec Tryd.f27 = true := by kernel_rfl
theorem recs_folding : goodFold Tryd.f29 = true := by kernel_rfl
noncomputable def files : Files := ⟨recsOf Tryd.f21, recsOf Tryd.f22, recsOf Tryd.f23, recsOf Tryd.f24, recsOf Tryd.f25, recsOf Tryd.f27, recsOf Tryd.f29⟩
set_option maxRecDepth 100000 in
theorem files_ok : FilesOk files where
  cat := recs_of recs_categories
  comb := recs_of recs_combining
  scr := recs_of recs_scripts
  clu := recs_of recs_clusters
  word := recs_of recs_words
  decl := recs_of (dec_of recs_decompositions).1
  dec := (dec_of recs_decompositions).2
  foll := recs_of (fold_of recs_folding).1
  fol := (fold_of recs_folding).2
set_option maxRecDepth 100000 in
theorem texts_ok : TextsOk files where
  cat := ⟨_, categories_calls, fun w hE => parse_of_good good_categories w hE⟩
  comb := ⟨_, combining_calls, fun w hE => parse_of_good good_combining w hE⟩
  scr := ⟨_, scripts_calls, fun w hE => parse_of_good good_scripts w hE⟩
  clu := ⟨_, clusters_calls, fun w hE => parse_of_good good_clusters w hE⟩
  word := ⟨_, words_calls, fun w hE => parse_of_good good_words w hE⟩
  dec := ⟨_, decompositions_calls, fun w hE => parse_of_good good_decompositions w hE⟩
  fol := ⟨_, folding_calls, fun w hE => parse_of_good good_folding w hE⟩
end Go.Proofs.YtmdkjljcnegmeaaDoor
