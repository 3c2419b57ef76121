/- UTF-8: what bytes are decoded to; what is encoded is decoded. No code is walked here. -/
import Derived.Test.YthoegenipbohmaaGreatDoorNormM
namespace Go.Proofs.YthoegenipbohmaaGreatDoor
set_option linter.unusedVariables false
set_option linter.unusedSimpArgs false
namespace Utf
def szOf (b : Nat) : Nat := if b ≤ 127 then 1 else if b < 194 then 0 else if b ≤ 223 then 2 else if b ≤ 239 then 3 else if b ≤ 244 then 4 else 0
def loOf (b i : Nat) : Nat := if i = 1 then (if b = 224 then 160 else if b = 240 then 144 else 128) else 128
def hiOf (b i : Nat) : Nat := if i = 1 then (if b = 237 then 159 else if b = 244 then 143 else 191) else 191
def okAt (b i x : Nat) : Bool := decide (loOf b i ≤ x) && decide (x ≤ hiOf b i)
/-- How far a sequence is well-formed. -/
def runTo (b sz : Nat) : List Nat → Nat → Nat
  | [], n => n
  | x :: t, n => if n < sz ∧ okAt b n x = true then runTo b sz t (n + 1) else n
def step (r x : Nat) : Nat := r * 64 + x % 64
def first (b sz : Nat) : Nat := if sz = 1 then b else b % 2 ^ (7 - sz)
def cpOf (b sz : Nat) (t : List Nat) : Nat := (t.take (sz - 1)).foldl step (first b sz)
/-- The code point at the beginning, and how many bytes it has. -/
def rd (b : Nat) (t : List Nat) : Nat × Nat :=
  if szOf b = 0 then (65533, 1) else if runTo b (szOf b) t 1 < szOf b then (65533, runTo b (szOf b) t 1) else (cpOf b (szOf b) t, szOf b)
theorem szOf_le (b : Nat) : szOf b ≤ 4 := by
  unfold szOf
  repeat' split
  all_goals decide
theorem runTo_ge (b sz : Nat) : ∀ (t : List Nat) (n : Nat), n ≤ runTo b sz t n
  | [], n => Nat.le_refl _
  | x :: t, n => by
    unfold runTo
    split
    · have := runTo_ge b sz t (n + 1); omega
    · exact Nat.le_refl _
theorem runTo_len (b sz : Nat) : ∀ (t : List Nat) (n : Nat), runTo b sz t n ≤ n + t.length
  | [], n => Nat.le_refl _
  | x :: t, n => by
    unfold runTo
    rw [List.length_cons]
    split
    · have := runTo_len b sz t (n + 1); omega
    · omega
theorem runTo_sz (b sz : Nat) : ∀ (t : List Nat) (n : Nat), n ≤ sz → runTo b sz t n ≤ sz
  | [], n, h => h
  | x :: t, n, h => by
    unfold runTo
    split
    · next h2 => exact runTo_sz b sz t (n + 1) (by omega)
    · exact h
theorem rd_n (b : Nat) (t : List Nat) : 1 ≤ (rd b t).2 ∧ (rd b t).2 ≤ 1 + t.length ∧ (rd b t).2 ≤ 4 := by
  have h4 := szOf_le b
  have h1 := runTo_ge b (szOf b) t 1
  have h2 := runTo_len b (szOf b) t 1
  unfold rd
  split
  · show 1 ≤ 1 ∧ 1 ≤ 1 + t.length ∧ 1 ≤ 4
    omega
  · split
    · show 1 ≤ runTo b (szOf b) t 1 ∧ runTo b (szOf b) t 1 ≤ 1 + t.length ∧ runTo b (szOf b) t 1 ≤ 4
      omega
    · show 1 ≤ szOf b ∧ szOf b ≤ 1 + t.length ∧ szOf b ≤ 4
      omega
theorem fold_lt : ∀ (l : List Nat) (r : Nat), l.foldl step r < (r + 1) * 64 ^ l.length
  | [], r => by simp
  | x :: l, r => by
    have := fold_lt l (step r x)
    rw [List.foldl_cons, List.length_cons, Nat.pow_succ]
    have h : step r x + 1 ≤ (r + 1) * 64 := by unfold step; omega
    have h2 := Nat.mul_le_mul_right (64 ^ l.length) h
    rw [Nat.mul_assoc] at h2
    rw [Nat.mul_comm (64 ^ l.length) 64]
    omega
theorem cp_lt (b : Nat) (t : List Nat) (hb : b ≤ 255) (h0 : szOf b ≠ 0) : cpOf b (szOf b) t < 2097152 := by
  have h4 := szOf_le b
  have hl : (t.take (szOf b - 1)).length ≤ szOf b - 1 := by rw [List.length_take]; omega
  have hf := fold_lt (t.take (szOf b - 1)) (first b (szOf b))
  unfold cpOf
  generalize (t.take (szOf b - 1)).foldl step (first b (szOf b)) = c at *
  generalize (t.take (szOf b - 1)).length = k at *
  have hp : 64 ^ k ≤ 64 ^ (szOf b - 1) := Nat.pow_le_pow_right (by decide) hl
  have hfst : (first b (szOf b) + 1) * 64 ^ (szOf b - 1) ≤ 2097152 := by
    rcases (by omega : szOf b = 1 ∨ szOf b = 2 ∨ szOf b = 3 ∨ szOf b = 4) with e | e | e | e
    · rw [e]; unfold first; rw [if_pos rfl]; omega
    · rw [e]; unfold first; rw [if_neg (by decide)]; have : b % 2 ^ (7 - 2) < 32 := Nat.mod_lt _ (by decide); omega
    · rw [e]; unfold first; rw [if_neg (by decide)]; have : b % 2 ^ (7 - 3) < 16 := Nat.mod_lt _ (by decide); omega
    · rw [e]; unfold first; rw [if_neg (by decide)]; have : b % 2 ^ (7 - 4) < 8 := Nat.mod_lt _ (by decide); omega
  have := Nat.mul_le_mul_left (first b (szOf b) + 1) hp
  omega
theorem rd_lt (b : Nat) (t : List Nat) (hb : b ≤ 255) : (rd b t).1 < 2097152 := by
  unfold rd
  split
  · decide
  · split
    · show 65533 < 2097152
      decide
    · exact cp_lt b t hb ‹_›
/-- The items of bytes that stand behind i others. -/
def decF : Nat → List Nat → Nat → List It
  | 0, _, _ => []
  | _ + 1, [], _ => []
  | k + 1, b :: t, i => ⟨((rd b t).1 : Nat), (i : Nat), ((i + (rd b t).2 : Nat) : Int)⟩ :: decF k ((b :: t).drop (rd b t).2) (i + (rd b t).2)
theorem decF_fuel : ∀ (k k' : Nat) (bs : List Nat) (i : Nat), bs.length ≤ k → bs.length ≤ k' → decF k bs i = decF k' bs i
  | 0, 0, _, _, _, _ => rfl
  | 0, k' + 1, [], _, _, _ => rfl
  | k + 1, 0, [], _, _, _ => rfl
  | k + 1, k' + 1, [], _, _, _ => rfl
  | 0, k' + 1, b :: t, _, h, _ => absurd h (by simp)
  | k + 1, 0, b :: t, _, _, h => absurd h (by simp)
  | k + 1, k' + 1, b :: t, i, h, h' => by
    have h1 := (rd_n b t).1
    have hl : ((b :: t).drop (rd b t).2).length ≤ t.length := by rw [List.length_drop, List.length_cons]; omega
    rw [List.length_cons] at h h'
    unfold decF
    rw [decF_fuel k k' _ _ (by omega) (by omega)]
def dec (bs : List Nat) (i : Nat) : List It := decF bs.length bs i
theorem dec_nil (i : Nat) : dec [] i = [] := rfl
theorem dec_cons (b : Nat) (t : List Nat) (i : Nat) : dec (b :: t) i = ⟨((rd b t).1 : Nat), (i : Nat), ((i + (rd b t).2 : Nat) : Int)⟩ :: dec ((b :: t).drop (rd b t).2) (i + (rd b t).2) := by
  have h1 := (rd_n b t).1
  unfold dec
  rw [List.length_cons]
  show _ :: decF t.length _ _ = _
  rw [decF_fuel t.length ((b :: t).drop (rd b t).2).length _ _ (by rw [List.length_drop, List.length_cons]; omega) (Nat.le_refl _)]
theorem dec_ind {P : List Nat → Nat → Prop} (h0 : ∀ i, P [] i) (h1 : ∀ b t i, P ((b :: t).drop (rd b t).2) (i + (rd b t).2) → P (b :: t) i) : ∀ (n : Nat) (bs : List Nat) (i : Nat), bs.length ≤ n → P bs i
  | _, [], i, _ => h0 i
  | 0, b :: t, i, h => absurd h (by simp)
  | n + 1, b :: t, i, h => by
    have h2 := (rd_n b t).1
    rw [List.length_cons] at h
    exact h1 b t i (dec_ind h0 h1 n _ _ (by rw [List.length_drop, List.length_cons]; omega))
theorem dec_len (bs : List Nat) (i : Nat) : (dec bs i).length ≤ bs.length := by
  refine dec_ind (P := fun bs i => (dec bs i).length ≤ bs.length) (fun i => Nat.le_refl _) (fun b t i ih => ?_) bs.length bs i (Nat.le_refl _)
  have h2 := (rd_n b t).1
  rw [List.length_drop, List.length_cons] at ih
  rw [dec_cons, List.length_cons, List.length_cons]
  omega
theorem dec_mem (bs : List Nat) (i : Nat) (hb : ∀ b ∈ bs, b ≤ 255) : ∀ x ∈ dec bs i, (i : Int) ≤ x.s ∧ x.s < x.e ∧ x.e ≤ (i + bs.length : Nat) ∧ 0 ≤ x.r ∧ x.r < 2097152 := by
  refine dec_ind (P := fun bs i => (∀ b ∈ bs, b ≤ 255) → ∀ x ∈ dec bs i, (i : Int) ≤ x.s ∧ x.s < x.e ∧ x.e ≤ (i + bs.length : Nat) ∧ 0 ≤ x.r ∧ x.r < 2097152) (fun i _ x hx => by cases hx) (fun b t i ih hb x hx => ?_) bs.length bs i (Nat.le_refl _) hb
  obtain ⟨h1, h2, h3⟩ := rd_n b t
  have h5 := rd_lt b t (hb b List.mem_cons_self)
  rw [dec_cons] at hx
  rw [List.length_cons]
  rcases List.mem_cons.1 hx with rfl | hx
  · dsimp only
    omega
  · have := ih (fun y hy => hb y (List.mem_of_mem_drop hy)) x hx
    rw [List.length_drop, List.length_cons] at this
    omega
theorem dec_next (bs : List Nat) (i : Nat) : ∀ x ∈ dec bs i, x.e = (i + bs.length : Nat) ∨ ∃ y ∈ dec bs i, y.s = x.e := by
  refine dec_ind (P := fun bs i => ∀ x ∈ dec bs i, x.e = (i + bs.length : Nat) ∨ ∃ y ∈ dec bs i, y.s = x.e) (fun i x hx => by cases hx) (fun b t i ih x hx => ?_) bs.length bs i (Nat.le_refl _)
  obtain ⟨h1, h2, h3⟩ := rd_n b t
  rw [dec_cons] at hx
  have hl : (i + (rd b t).2 : Nat) + ((b :: t).drop (rd b t).2).length = i + (b :: t).length := by rw [List.length_drop, List.length_cons]; omega
  rcases List.mem_cons.1 hx with rfl | hx
  · cases hd : (b :: t).drop (rd b t).2 with
    | nil =>
      left
      rw [hd] at hl
      dsimp only
      rw [← hl]
      rfl
    | cons b2 t2 =>
      right
      have hm : (⟨((rd b2 t2).1 : Nat), ((i + (rd b t).2 : Nat) : Int), ((i + (rd b t).2 + (rd b2 t2).2 : Nat) : Int)⟩ : It) ∈ dec (b :: t) i := by
        rw [dec_cons, hd, dec_cons]
        exact List.mem_cons_of_mem _ List.mem_cons_self
      exact ⟨_, hm, rfl⟩
  · rcases ih x hx with h | ⟨y, hy, h⟩
    · left; rw [h, hl]
    · right
      refine ⟨y, ?_, h⟩
      rw [dec_cons]
      exact List.mem_cons_of_mem _ hy
/-! ### what is encoded -/
def valid (r : Int) : Bool := decide (0 ≤ r) && decide (r ≤ 1114111) && !(decide (55296 ≤ r) && decide (r ≤ 57343))
def encN (r : Nat) : List Nat := if r < 128 then [r] else if r < 2048 then [192 + r / 64, 128 + r % 64] else if r < 65536 then [224 + r / 4096, 128 + r / 64 % 64, 128 + r % 64] else [240 + r / 262144, 128 + r / 4096 % 64, 128 + r / 64 % 64, 128 + r % 64]
def encOf (r : Int) : List Nat := if valid r = true then encN r.toNat else []
theorem encN_len (r : Nat) : 1 ≤ (encN r).length ∧ (encN r).length ≤ 4 := by
  unfold encN
  repeat' split
  all_goals simp
theorem encOf_len (r : Int) : (encOf r).length ≤ 4 := by
  unfold encOf
  split
  · exact (encN_len _).2
  · simp
theorem encN_byte (r : Nat) (h : r ≤ 1114111) : ∀ x ∈ encN r, x ≤ 255 := by
  intro x hx
  unfold encN at hx
  repeat' split at hx
  all_goals simp at hx; omega
theorem encOf_byte (r : Int) : ∀ x ∈ encOf r, x ≤ 255 := by
  intro x hx
  unfold encOf at hx
  split at hx
  · rename_i h
    refine encN_byte _ ?_ x hx
    unfold valid at h
    simp at h
    omega
  · cases hx
theorem run1 (b x : Nat) (t : List Nat) (sz n : Nat) (h : n < sz) (h2 : loOf b n ≤ x) (h3 : x ≤ hiOf b n) : runTo b sz (x :: t) n = runTo b sz t (n + 1) := by
  conv => lhs; unfold runTo
  rw [if_pos ⟨h, by unfold okAt; simp [h2, h3]⟩]
theorem run0 (b : Nat) (t : List Nat) (sz : Nat) : runTo b sz t sz = sz := by
  cases t with
  | nil => rfl
  | cons x t => unfold runTo; rw [if_neg (by omega)]
theorem lo1 (b i : Nat) (h : i ≠ 1) : loOf b i = 128 ∧ hiOf b i = 191 := by unfold loOf hiOf; rw [if_neg h, if_neg h]; exact ⟨rfl, rfl⟩
theorem rd_enc (r : Nat) (hr : r ≤ 1114111) (hs : r < 55296 ∨ 57343 < r) (rest : List Nat) : ∃ b t, encN r = b :: t ∧ rd b (t ++ rest) = (r, (encN r).length) := by
  unfold encN
  split
  · rename_i h
    refine ⟨r, [], rfl, ?_⟩
    have e : szOf r = 1 := by unfold szOf; rw [if_pos (by omega)]
    unfold rd
    rw [e, if_neg (by decide), run0, if_neg (by decide)]
    rfl
  · rename_i h
    split
    · rename_i h2
      refine ⟨192 + r / 64, [128 + r % 64], rfl, ?_⟩
      have e : szOf (192 + r / 64) = 2 := by unfold szOf; rw [if_neg (by omega), if_neg (by omega), if_pos (by omega)]
      unfold rd
      rw [e, if_neg (by decide), List.singleton_append, run1 _ _ _ 2 1 (by omega) (by unfold loOf; rw [if_pos rfl, if_neg (by omega), if_neg (by omega)]; omega) (by unfold hiOf; rw [if_pos rfl, if_neg (by omega), if_neg (by omega)]; omega), run0, if_neg (by decide)]
      show (step (first (192 + r / 64) 2) (128 + r % 64), 2) = (r, 2)
      unfold step first
      rw [if_neg (by decide)]
      congr 1
      show (192 + r / 64) % 32 * 64 + (128 + r % 64) % 64 = r
      omega
    · rename_i h2
      split
      · rename_i h3
        refine ⟨224 + r / 4096, [128 + r / 64 % 64, 128 + r % 64], rfl, ?_⟩
        have e : szOf (224 + r / 4096) = 3 := by unfold szOf; rw [if_neg (by omega), if_neg (by omega), if_neg (by omega), if_pos (by omega)]
        have l1 := lo1 (224 + r / 4096) 2 (by decide)
        unfold rd
        rw [e, if_neg (by decide), List.cons_append, List.singleton_append, run1 _ _ _ 3 1 (by omega) (by unfold loOf; rw [if_pos rfl]; split <;> (first | omega | (rw [if_neg (by omega)]; omega))) (by unfold hiOf; rw [if_pos rfl]; split <;> (first | omega | (rw [if_neg (by omega)]; omega))), run1 _ _ _ 3 2 (by omega) (by rw [l1.1]; omega) (by rw [l1.2]; omega), run0, if_neg (by decide)]
        show (step (step (first (224 + r / 4096) 3) (128 + r / 64 % 64)) (128 + r % 64), 3) = (r, 3)
        unfold step first
        rw [if_neg (by decide)]
        congr 1
        show ((224 + r / 4096) % 16 * 64 + (128 + r / 64 % 64) % 64) * 64 + (128 + r % 64) % 64 = r
        omega
      · rename_i h3
        refine ⟨240 + r / 262144, [128 + r / 4096 % 64, 128 + r / 64 % 64, 128 + r % 64], rfl, ?_⟩
        have e : szOf (240 + r / 262144) = 4 := by unfold szOf; rw [if_neg (by omega), if_neg (by omega), if_neg (by omega), if_neg (by omega), if_pos (by omega)]
        have l1 := lo1 (240 + r / 262144) 2 (by decide)
        have l2 := lo1 (240 + r / 262144) 3 (by decide)
        unfold rd
        rw [e, if_neg (by decide), List.cons_append, List.cons_append, List.singleton_append, run1 _ _ _ 4 1 (by omega) (by unfold loOf; rw [if_pos rfl, if_neg (by omega)]; split <;> omega) (by unfold hiOf; rw [if_pos rfl, if_neg (by omega)]; split <;> omega), run1 _ _ _ 4 2 (by omega) (by rw [l1.1]; omega) (by rw [l1.2]; omega), run1 _ _ _ 4 3 (by omega) (by rw [l2.1]; omega) (by rw [l2.2]; omega), run0, if_neg (by decide)]
        show (step (step (step (first (240 + r / 262144) 4) (128 + r / 4096 % 64)) (128 + r / 64 % 64)) (128 + r % 64), 4) = (r, 4)
        unfold step first
        rw [if_neg (by decide)]
        congr 1
        show (((240 + r / 262144) % 8 * 64 + (128 + r / 4096 % 64) % 64) * 64 + (128 + r / 64 % 64) % 64) * 64 + (128 + r % 64) % 64 = r
        omega
/-- What is encoded is decoded. -/
theorem dec_enc : ∀ (rs : List Int) (i : Nat), (∀ r ∈ rs, valid r = true) → (dec (rs.flatMap encOf) i).map It.r = rs
  | [], i, _ => rfl
  | r :: rs, i, h => by
    have hv := h r List.mem_cons_self
    have hv' := hv
    unfold valid at hv'
    simp only [Bool.and_eq_true, Bool.not_eq_true', Bool.and_eq_false_iff, decide_eq_true_eq, decide_eq_false_iff_not] at hv'
    obtain ⟨b, t, e, hrd⟩ := rd_enc r.toNat (by omega) (by omega) (rs.flatMap encOf)
    have e2 : encOf r = b :: t := by unfold encOf; rw [if_pos hv, e]
    rw [List.flatMap_cons, e2, List.cons_append, dec_cons, hrd]
    have hd : (b :: (t ++ rs.flatMap encOf)).drop (encN r.toNat).length = rs.flatMap encOf := by
      rw [← List.cons_append, ← e]
      exact List.drop_left
    rw [show (r.toNat, (encN r.toNat).length).2 = (encN r.toNat).length from rfl, hd, List.map_cons, dec_enc rs _ fun y hy => h y (List.mem_cons_of_mem _ hy)]
    congr 1
    show ((r.toNat : Nat) : Int) = r
    omega
theorem enc_filter : ∀ rs : List Int, (rs.filter fun r => valid r).flatMap encOf = rs.flatMap encOf
  | [] => rfl
  | r :: rs => by
    rw [List.flatMap_cons, ← enc_filter rs, List.filter_cons]
    split
    · rw [List.flatMap_cons]
    · rename_i h
      unfold encOf
      rw [if_neg h]
      rfl
end Utf
end Go.Proofs.YthoegenipbohmaaGreatDoor
