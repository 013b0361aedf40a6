/-
  Proved, in plain Lean: what is read out of the bytes of a chunk that was put is what was put, of each kind; and what becomes of it where the bytes are cut. Conditions: as each line says.
-/
import Derived.Test.YtedbmpfjikaljaaOnce
namespace Go.Proofs.Ytedbmpfjikaljaa
open Go.RowKit
set_option linter.unusedVariables false
set_option linter.unusedSimpArgs false
set_option linter.unusedSectionVars false
set_option maxRecDepth 100000

theorem num_go (l : List Int) (a : Int) : l.foldl (fun x b => x * 256 + b) a = a * 256 ^ l.length + num l := by
  induction l generalizing a with
  | nil => simp [num]
  | cons b l ih =>
    unfold num
    rw [List.foldl_cons, List.foldl_cons, ih, ih (0 * 256 + b), List.length_cons, Int.pow_succ, Int.add_mul, Int.zero_mul, Int.zero_add, Int.add_assoc, Int.mul_assoc, Int.mul_comm 256]
theorem num_cons (b : Int) (l : List Int) : num (b :: l) = b * 256 ^ l.length + num l := by
  unfold num
  rw [List.foldl_cons, num_go]
  simp [num]
theorem two_256 (n : Nat) : (2 : Int) ^ (8 * n) = 256 ^ n := by rw [Int.pow_mul]; rfl
theorem emod_split (x M : Int) (h : 0 < M) : x / M % 256 * M + x % M = x % (M * 256) := by
  have h1 := Int.mul_ediv_add_emod x M
  have h2 := Int.mul_ediv_add_emod (x / M) 256
  have h3 := Int.emod_nonneg x (show M ≠ 0 by omega)
  have h4 := Int.emod_lt_of_pos x h
  have h5 := Int.emod_nonneg (x / M) (show (256 : Int) ≠ 0 by omega)
  have h6 := Int.emod_lt_of_pos (x / M) (show (0 : Int) < 256 by omega)
  generalize x % M = r at *
  generalize x / M % 256 = c at *
  generalize x / M / 256 = d at *
  have e : x = (c * M + r) + M * 256 * d := by
    rw [← h1, ← h2, Int.mul_add, Int.mul_comm c M, ← Int.mul_assoc]
    omega
  have hc0 : 0 ≤ c * M := Int.mul_nonneg h5 (by omega)
  have hc1 : c * M ≤ 255 * M := Int.mul_le_mul_of_nonneg_right (by omega) (by omega)
  rw [e, Int.add_mul_emod_self_left, Int.emod_eq_of_lt (by omega) (by omega)]
theorem num_be : ∀ (n : Nat) (x : Int), num (be n x) = x % 256 ^ n
  | 0, x => by simp [num, be]
  | n + 1, x => by
    rw [be, num_cons, be_len, num_be n x, two_256, Int.pow_succ]
    have hp : (0 : Int) < 256 ^ n := Int.pow_pos (by decide)
    exact emod_split x _ hp
theorem drop_app (p r : List Int) : (p ++ r).drop p.length = r := by simp
theorem gt_skip {p r : List Int} {at_ s : Nat} (h : p.length ≤ at_) : gt (p ++ r) at_ s = gt r (at_ - p.length) s := by
  unfold gt
  rw [List.length_append, List.drop_append, List.drop_eq_nil_of_le h, List.nil_append]
  by_cases h2 : at_ + s ≤ p.length + r.length
  · rw [if_pos h2, if_pos (by omega)]
  · rw [if_neg h2, if_neg (by omega)]
theorem gt_be (s : Nat) (x : Int) (r : List Int) : gt (be s x ++ r) 0 s = x % 256 ^ s := by
  unfold gt
  rw [if_pos (by rw [List.length_append, be_len]; omega), List.drop_zero, List.take_append_of_le_length (by rw [be_len]; exact Nat.le_refl _), List.take_of_length_le (by rw [be_len]; exact Nat.le_refl _), num_be]
theorem gt_be_at {p r : List Int} {s at_ : Nat} {x : Int} (hp : p.length = at_) (h0 : 0 ≤ x) (h1 : x < 256 ^ s) : gt (p ++ (be s x ++ r)) at_ s = x := by
  subst hp
  rw [gt_skip (Nat.le_refl _), Nat.sub_self, gt_be, Int.emod_eq_of_lt h0 h1]
theorem bes1 (s : Nat) (x : Int) : bes s [x] = be s x := by simp [bes]
theorem bes2 (s : Nat) (x y : Int) : bes s [x, y] = be s x ++ be s y := by simp [bes]
theorem bes_cons (s : Nat) (x : Int) (l : List Int) : bes s (x :: l) = be s x ++ bes s l := by simp [bes]
theorem pairs_cons (p : Int × Int) (l : List (Int × Int)) : pairsL (p :: l) = be 2 p.1 ++ (be 2 p.2 ++ pairsL l) := by simp [pairsL, bes]
theorem prs_cons (xs : List Int) (at_ k : Nat) : prs xs at_ (k + 1) = (gt xs at_ 2, gt xs (at_ + 2) 2) :: prs xs (at_ + 4) k := by
  unfold prs
  rw [List.range_succ_eq_map, List.map_cons, List.map_map]
  congr 1
  apply List.map_congr_left
  intro i _
  simp only [Function.comp]
  rw [show at_ + 4 * (i + 1) = at_ + 4 + 4 * i by omega]
theorem dds_cons (xs : List Int) (at_ k : Nat) : dds xs at_ (k + 1) = gt xs at_ 4 :: dds xs (at_ + 4) k := by
  unfold dds
  rw [List.range_succ_eq_map, List.map_cons, List.map_map]
  congr 1
  apply List.map_congr_left
  intro i _
  simp only [Function.comp]
  rw [show at_ + 4 * (i + 1) = at_ + 4 + 4 * i by omega]
theorem prs_of : ∀ (ps : List (Int × Int)) (p r : List Int) (at_ : Nat), p.length = at_ → (∀ q ∈ ps, (0 ≤ q.1 ∧ q.1 < 65536) ∧ (0 ≤ q.2 ∧ q.2 < 65536)) → prs (p ++ (pairsL ps ++ r)) at_ ps.length = ps
  | [], p, r, at_, _, _ => by simp [prs]
  | a :: ps, p, r, at_, hp, hb => by
    obtain ⟨h1, h2⟩ := hb a (List.mem_cons_self ..)
    rw [List.length_cons, prs_cons, pairs_cons]
    have e1 : gt (p ++ (be 2 a.1 ++ (be 2 a.2 ++ pairsL ps) ++ r)) at_ 2 = a.1 := by
      rw [List.append_assoc (be 2 a.1)]
      exact gt_be_at hp h1.1 h1.2
    have e2 : gt (p ++ (be 2 a.1 ++ (be 2 a.2 ++ pairsL ps) ++ r)) (at_ + 2) 2 = a.2 := by
      rw [List.append_assoc (be 2 a.1), List.append_assoc (be 2 a.2), ← List.append_assoc p]
      exact gt_be_at (by simp [be_len, hp]) h2.1 h2.2
    have e3 : prs (p ++ (be 2 a.1 ++ (be 2 a.2 ++ pairsL ps) ++ r)) (at_ + 4) ps.length = ps := by
      have := prs_of ps (p ++ be 2 a.1 ++ be 2 a.2) r (at_ + 4) (by simp [be_len, hp]) (fun q hq => hb q (List.mem_cons_of_mem _ hq))
      simpa [List.append_assoc] using this
    rw [e1, e2, e3]
theorem dds_of : ∀ (ds : List Int) (p r : List Int) (at_ : Nat), p.length = at_ → (∀ q ∈ ds, 0 ≤ q ∧ q < 4294967296) → dds (p ++ (bes 4 ds ++ r)) at_ ds.length = ds
  | [], p, r, at_, _, _ => by simp [dds]
  | a :: ds, p, r, at_, hp, hb => by
    obtain ⟨h1, h2⟩ := hb a (List.mem_cons_self ..)
    rw [List.length_cons, dds_cons, bes_cons]
    have e1 : gt (p ++ (be 4 a ++ bes 4 ds ++ r)) at_ 4 = a := by
      rw [List.append_assoc (be 4 a)]
      exact gt_be_at hp h1 h2
    have e3 : dds (p ++ (be 4 a ++ bes 4 ds ++ r)) (at_ + 4) ds.length = ds := by
      have := dds_of ds (p ++ be 4 a) r (at_ + 4) (by simp [be_len, hp]) (fun q hq => hb q (List.mem_cons_of_mem _ hq))
      simpa [List.append_assoc] using this
    rw [e1, e3]

/-! data -/
theorem dataL_eq (t s q : Int) (bs : List Int) : dataL t s q bs = be 4 t ++ (be 2 s ++ (be 2 q ++ (be 4 0 ++ bs))) := by simp [dataL, bes1, bes2]
theorem data_t (t s q : Int) (bs : List Int) (h : 0 ≤ t ∧ t < 4294967296) : gt (dataL t s q bs) 0 4 = t := by
  rw [dataL_eq]
  exact gt_be_at (p := []) rfl h.1 h.2
theorem data_s (t s q : Int) (bs : List Int) (h : 0 ≤ s ∧ s < 65536) : gt (dataL t s q bs) 4 2 = s := by
  rw [dataL_eq]
  exact gt_be_at (be_len 4 t) h.1 h.2
theorem data_q (t s q : Int) (bs : List Int) (h : 0 ≤ q ∧ q < 65536) : gt (dataL t s q bs) 6 2 = q := by
  rw [dataL_eq, ← List.append_assoc]
  exact gt_be_at (by simp [be_len]) h.1 h.2
theorem data_drop (t s q : Int) (bs : List Int) : (dataL t s q bs).drop 12 = bs := by
  unfold dataL
  rw [List.drop_left' (by simp [bes_len])]
/-! what will not come -/
theorem fwd_ps (x : Int) (ps : List (Int × Int)) (hb : ∀ q ∈ ps, (0 ≤ q.1 ∧ q.1 < 65536) ∧ (0 ≤ q.2 ∧ q.2 < 65536)) : fwdPs (fwdL x ps) = ps := by
  unfold fwdPs
  rw [fwdL_len, show (4 + ps.length * 4 - 1) / 4 = ps.length by omega]
  have := prs_of ps (bes 4 [x]) [] 4 (by simp [bes_len]) hb
  simpa [fwdL] using this
theorem fwd_x (x : Int) (ps : List (Int × Int)) (h : 0 ≤ x ∧ x < 4294967296) : gt (fwdL x ps) 0 4 = x := by
  unfold fwdL
  rw [bes1]
  exact gt_be_at (p := []) rfl h.1 h.2
theorem fwd_E (x : Int) (ps : List (Int × Int)) (h : 0 ≤ x ∧ x < 4294967296) (hb : ∀ q ∈ ps, (0 ≤ q.1 ∧ q.1 < 65536) ∧ (0 ≤ q.2 ∧ q.2 < 65536)) : fwdE 192 0 (fwdL x ps) = true := by
  unfold fwdE
  rw [fwd_ps x ps hb, fwd_x x ps h]
  simp
/-! an acknowledgement -/
theorem sackL_eq (a b : Int) (ps : List (Int × Int)) (ds : List Int) : sackL a b ps ds = be 4 a ++ (be 4 b ++ (be 2 ps.length ++ (be 2 ds.length ++ (pairsL ps ++ (bes 4 ds ++ []))))) := by simp [sackL, bes2]
theorem sack_a (a b : Int) (ps : List (Int × Int)) (ds : List Int) (h : 0 ≤ a ∧ a < 4294967296) : gt (sackL a b ps ds) 0 4 = a := by
  rw [sackL_eq]
  exact gt_be_at (p := []) rfl h.1 h.2
theorem sack_b (a b : Int) (ps : List (Int × Int)) (ds : List Int) (h : 0 ≤ b ∧ b < 4294967296) : gt (sackL a b ps ds) 4 4 = b := by
  rw [sackL_eq]
  exact gt_be_at (be_len 4 a) h.1 h.2
theorem sack_g (a b : Int) (ps : List (Int × Int)) (ds : List Int) (h : ps.length < 65536) : gt (sackL a b ps ds) 8 2 = ps.length := by
  rw [sackL_eq, ← List.append_assoc]
  exact gt_be_at (by simp [be_len]) (by omega) (by simp only [show (256 : Int) ^ 2 = 65536 from rfl]; omega)
theorem sack_d (a b : Int) (ps : List (Int × Int)) (ds : List Int) (h : ds.length < 65536) : gt (sackL a b ps ds) 10 2 = ds.length := by
  rw [sackL_eq, ← List.append_assoc, ← List.append_assoc]
  exact gt_be_at (by simp [be_len]) (by omega) (by simp only [show (256 : Int) ^ 2 = 65536 from rfl]; omega)
theorem sack_G (a b : Int) (ps : List (Int × Int)) (ds : List Int) (h : ps.length < 65536) : sackG (sackL a b ps ds) = ps.length := by
  unfold sackG
  rw [sack_g a b ps ds h, sackL_len]
  omega
theorem sack_D (a b : Int) (ps : List (Int × Int)) (ds : List Int) (h : ps.length < 65536) (h' : ds.length < 65536) : sackD (sackL a b ps ds) = ds.length := by
  unfold sackD
  rw [sack_d a b ps ds h', sack_G a b ps ds h, sackL_len]
  omega
theorem sack_ps (a b : Int) (ps : List (Int × Int)) (ds : List Int) (h : ps.length < 65536) (hb : ∀ q ∈ ps, (0 ≤ q.1 ∧ q.1 < 65536) ∧ (0 ≤ q.2 ∧ q.2 < 65536)) : sackPs (sackL a b ps ds) = ps := by
  unfold sackPs
  rw [sack_G a b ps ds h, sackL_eq, ← List.append_assoc, ← List.append_assoc, ← List.append_assoc]
  exact prs_of ps _ _ 12 (by simp [be_len]) hb
theorem sack_ds (a b : Int) (ps : List (Int × Int)) (ds : List Int) (h : ps.length < 65536) (h' : ds.length < 65536) (hb : ∀ q ∈ ds, 0 ≤ q ∧ q < 4294967296) : sackDs (sackL a b ps ds) = ds := by
  unfold sackDs
  rw [sack_G a b ps ds h, sack_D a b ps ds h h', sackL_eq, ← List.append_assoc, ← List.append_assoc, ← List.append_assoc, ← List.append_assoc]
  exact dds_of ds _ _ _ (by simp [be_len, pairsL_len]; omega) hb
theorem sack_E (a b : Int) (ps : List (Int × Int)) (ds : List Int) (ha : 0 ≤ a ∧ a < 4294967296) (hb : 0 ≤ b ∧ b < 4294967296) (h : ps.length < 65536) (h' : ds.length < 65536) (hp : ∀ q ∈ ps, (0 ≤ q.1 ∧ q.1 < 65536) ∧ (0 ≤ q.2 ∧ q.2 < 65536)) (hd : ∀ q ∈ ds, 0 ≤ q ∧ q < 4294967296) : sackE 3 0 (sackL a b ps ds) = (aptS ps).1 := by
  unfold sackE
  rw [sack_ps a b ps ds h hp, sack_ds a b ps ds h h' hd, sack_a a b ps ds ha, sack_b a b ps ds hb]
  simp
/-! numbers and times -/
theorem cum_x (x : Int) (h : 0 ≤ x ∧ x < 4294967296) : gt (cumL x) 0 4 = x := by
  have := gt_be_at (p := []) (r := []) (s := 4) (at_ := 0) (x := x) rfl h.1 h.2
  simpa [cumL, bes1] using this
theorem time_x (x : Int) : gt (timeL x) 4 8 = x % 18446744073709551616 := by
  have := gt_be_at (p := bes 2 [1, 12]) (r := []) (s := 8) (at_ := 4) (x := x % 18446744073709551616) (by simp [bes_len]) (by omega) (by simp only [show (256 : Int) ^ 8 = 18446744073709551616 from rfl]; omega)
  simpa [timeL, bes1] using this
/-! a beginning -/
theorem headL_eq (a b c d e : Int) : headL a b c d e = be 4 a ++ (be 4 b ++ (be 2 c ++ (be 2 d ++ (be 4 e ++ [])))) := by simp [headL, bes1, bes2]
theorem gt_left {p r : List Int} {at_ s : Nat} (h : at_ + s ≤ p.length) : gt (p ++ r) at_ s = gt p at_ s := by
  unfold gt
  rw [if_pos (by rw [List.length_append]; omega), if_pos h, List.drop_append_of_le_length (by omega), List.take_append_of_le_length (by rw [List.length_drop]; omega)]
theorem initL_split (k a b c d e : Int) (bs : List Int) : ∃ r, initL k a b c d e bs = headL a b c d e ++ r := by
  unfold initL ackL
  split
  · exact ⟨_, by rw [List.append_assoc, List.append_assoc]⟩
  · exact ⟨[], by simp⟩
theorem init_f (k a b c d e : Int) (bs : List Int) (ha : 0 ≤ a ∧ a < 4294967296) (hb : 0 ≤ b ∧ b < 4294967296) (hc : 0 ≤ c ∧ c < 65536) (hd : 0 ≤ d ∧ d < 65536) (he : 0 ≤ e ∧ e < 4294967296) :
    gt (initL k a b c d e bs) 0 4 = a ∧ gt (initL k a b c d e bs) 4 4 = b ∧ gt (initL k a b c d e bs) 8 2 = c ∧ gt (initL k a b c d e bs) 10 2 = d ∧ gt (initL k a b c d e bs) 12 4 = e := by
  obtain ⟨r, hr⟩ := initL_split k a b c d e bs
  rw [hr, gt_left (by rw [headL_len]; omega), gt_left (by rw [headL_len]; omega), gt_left (by rw [headL_len]; omega), gt_left (by rw [headL_len]; omega), gt_left (by rw [headL_len]; omega), headL_eq]
  refine ⟨gt_be_at (p := []) rfl ha.1 ha.2, gt_be_at (be_len 4 a) hb.1 hb.2, ?_, ?_, ?_⟩
  · rw [← List.append_assoc]
    exact gt_be_at (by simp [be_len]) hc.1 hc.2
  · rw [← List.append_assoc, ← List.append_assoc]
    exact gt_be_at (by simp [be_len]) hd.1 hd.2
  · rw [← List.append_assoc, ← List.append_assoc, ← List.append_assoc]
    exact gt_be_at (by simp [be_len]) he.1 he.2
theorem ackL_len (a b c d e : Int) (bs : List Int) : (ackL a b c d e bs).length = rnd (20 + bs.length) := by
  unfold ackL
  simp [headL_len, bes_len]
  unfold rnd
  omega
theorem ack_ck (a b c d e : Int) (bs : List Int) (h : bs.length ≤ 60000) : ckL (ackL a b c d e bs) = bs := by
  have hl := ackL_len a b c d e bs
  have e1 : gt (ackL a b c d e bs) 18 2 = 4 + (bs.length : Int) := by
    unfold ackL
    rw [bes2, List.append_assoc, List.append_assoc, List.append_assoc, ← List.append_assoc]
    exact gt_be_at (by simp [headL_len, be_len]) (by omega) (by simp only [show (256 : Int) ^ 2 = 65536 from rfl]; omega)
  unfold ckL
  rw [e1, hl, show (4 + (bs.length : Int) - 4) = (bs.length : Int) by omega, if_pos (by unfold isWithin rnd; simp; omega), Int.toNat_natCast]
  unfold ackL
  rw [List.append_assoc, List.drop_left' (by simp [headL_len, bes_len]), List.take_left' rfl]
theorem init_E1 (a b c d e : Int) (bs : List Int) (ha : 0 ≤ a ∧ a < 4294967296) (hb : 0 ≤ b ∧ b < 4294967296) (hc : 0 ≤ c ∧ c < 65536) (hd : 0 ≤ d ∧ d < 65536) (he : 0 ≤ e ∧ e < 4294967296) : initE 1 0 (initL 1 a b c d e bs) = nz3 a c d := by
  obtain ⟨h1, h2, h3, h4, h5⟩ := init_f 1 a b c d e bs ha hb hc hd he
  unfold initE initMay
  rw [h1, h2, h3, h4, h5]
  simp [initL, initCk]
theorem init_E2 (a b c d e : Int) (bs : List Int) (ha : 0 ≤ a ∧ a < 4294967296) (hb : 0 ≤ b ∧ b < 4294967296) (hc : 0 ≤ c ∧ c < 65536) (hd : 0 ≤ d ∧ d < 65536) (he : 0 ≤ e ∧ e < 4294967296) (h : bs.length ≤ 60000) :
    initE 2 0 (initL 2 a b c d e bs) = (nz3 a c d && decide (0 < bs.length)) ∧ initCk 2 (initL 2 a b c d e bs) = bs := by
  obtain ⟨h1, h2, h3, h4, h5⟩ := init_f 2 a b c d e bs ha hb hc hd he
  have hi : initL 2 a b c d e bs = ackL a b c d e bs := if_pos rfl
  have hck : initCk 2 (initL 2 a b c d e bs) = bs := by rw [hi]; exact ack_ck a b c d e bs h
  have hck2 : ckL (initL 2 a b c d e bs) = bs := by rw [hi]; exact ack_ck a b c d e bs h
  refine ⟨?_, hck⟩
  unfold initE initMay
  rw [h1, h2, h3, h4, h5, hck, hck2]
  simp
/-! cuts -/
theorem gt_take (l : List Int) {at_ s k : Nat} (h : at_ + s ≤ k) (hk : k ≤ l.length) : gt (l.take k) at_ s = gt l at_ s := by
  unfold gt
  rw [if_pos (by rw [List.length_take]; omega), if_pos (by omega), List.drop_take, List.take_take, Nat.min_eq_left (by omega)]
theorem cut_init {f a b c d e : Int} {bs : List Int} (h : bs.length ≤ 60000) {k : Nat} (hk : k ≤ (initL 2 a b c d e bs).length) (hE : initE 2 f ((initL 2 a b c d e bs).take k) = true) : k = (initL 2 a b c d e bs).length := by
  have hi : initL 2 a b c d e bs = ackL a b c d e bs := if_pos rfl
  rw [hi] at hk hE ⊢
  have hl := ackL_len a b c d e bs
  have e1 : gt (ackL a b c d e bs) 18 2 = 4 + (bs.length : Int) := by
    unfold ackL
    rw [bes2, List.append_assoc, List.append_assoc, List.append_assoc, ← List.append_assoc]
    exact gt_be_at (by simp [headL_len, be_len]) (by omega) (by simp only [show (256 : Int) ^ 2 = 65536 from rfl]; omega)
  generalize ackL a b c d e bs = ys at *
  have hz : (ys.take k).length = k := by rw [List.length_take]; omega
  unfold initE initMay at hE
  simp only [Bool.and_eq_true, Bool.or_eq_true, decide_eq_true_eq] at hE
  obtain ⟨⟨⟨⟨_, hm⟩, _⟩, _⟩, hE⟩ := hE
  have hm : 0 < (ckL (ys.take k)).length := by
    rcases hm with hm | hm
    · simp at hm
    · exact hm.2
  have hE2 := congrArg List.length hE
  rw [show ∀ a b c d e bs, initL 2 a b c d e bs = ackL a b c d e bs from fun _ _ _ _ _ _ => if_pos rfl, ackL_len, hz, show initCk 2 (ys.take k) = ckL (ys.take k) from rfl] at hE2
  have h20 : 20 ≤ k := by rw [← hE2]; unfold rnd; omega
  have hg : gt (ys.take k) 18 2 = 4 + (bs.length : Int) := by rw [gt_take ys (by omega) hk, e1]
  unfold ckL at hE2 hm
  rw [hg, hz, show (4 + (bs.length : Int) - 4) = (bs.length : Int) by omega, Int.toNat_natCast] at hm
  rw [hg, hz, show (4 + (bs.length : Int) - 4) = (bs.length : Int) by omega, Int.toNat_natCast] at hE2
  by_cases hw : isWithin k ((20 : Nat) : Int) (bs.length : Int) = true
  · rw [if_pos hw, List.length_take, List.length_drop, hz] at hE2
    unfold isWithin at hw
    simp only [Bool.and_eq_true, decide_eq_true_eq] at hw
    rw [hl, ← hE2]
    congr 2
    omega
  · rw [if_neg hw] at hm
    simp at hm
theorem cut_sack {f a b : Int} {ps : List (Int × Int)} {ds : List Int} (hp : ps.length < 65536) (hd : ds.length < 65536) {k : Nat} (hk : k ≤ (sackL a b ps ds).length) (hE : sackE 3 f ((sackL a b ps ds).take k) = true) : k = (sackL a b ps ds).length := by
  have e1 := sack_g a b ps ds hp
  have e2 := sack_d a b ps ds hd
  have hl := sackL_len a b ps ds
  generalize sackL a b ps ds = ys at *
  have hz : (ys.take k).length = k := by rw [List.length_take]; omega
  unfold sackE at hE
  simp only [Bool.and_eq_true, decide_eq_true_eq] at hE
  obtain ⟨_, hE⟩ := hE
  have hE2 := congrArg List.length hE
  rw [sackL_len, hz] at hE2
  have b1 : (sackPs (ys.take k)).length < 65536 := by
    unfold sackPs sackG
    rw [prs_len]
    rw [gt_take ys (by omega) hk, e1]
    omega
  have b2 : (sackDs (ys.take k)).length < 65536 := by
    unfold sackDs sackD
    rw [dds_len]
    rw [gt_take ys (by omega) hk, e2]
    omega
  have g1 := sack_g (gt (ys.take k) 0 4) (gt (ys.take k) 4 4) _ (sackDs (ys.take k)) b1
  have g2 := sack_d (gt (ys.take k) 0 4) (gt (ys.take k) 4 4) (sackPs (ys.take k)) _ b2
  rw [hE, gt_take ys (by omega) hk, e1] at g1
  rw [hE, gt_take ys (by omega) hk, e2] at g2
  omega
theorem pairs_take4 : ∀ (ps : List (Int × Int)) (j : Nat), (pairsL ps).take (4 * j) = pairsL (ps.take j)
  | [], j => by simp [pairsL]
  | p :: ps, 0 => by simp [pairsL]
  | p :: ps, j + 1 => by
    have hl : (be 2 p.1 ++ be 2 p.2).length = 4 := by simp [be_len]
    rw [List.take_succ_cons, pairs_cons, pairs_cons, ← List.append_assoc, ← List.append_assoc, ← pairs_take4 ps j, show 4 * (j + 1) = (be 2 p.1 ++ be 2 p.2).length + 4 * j by rw [hl]; omega, List.take_length_add_append]
theorem cut_fwd {x : Int} {ps : List (Int × Int)} (hx : 0 ≤ x ∧ x < 4294967296) (hb : ∀ q ∈ ps, (0 ≤ q.1 ∧ q.1 < 65536) ∧ (0 ≤ q.2 ∧ q.2 < 65536)) {k : Nat} (hk : k ≤ (fwdL x ps).length) : fwdE 192 0 ((fwdL x ps).take k) = (decide (4 ≤ k) && decide (k % 4 = 0)) := by
  have hz : ((fwdL x ps).take k).length = k := by rw [List.length_take]; omega
  by_cases h : 4 ≤ k ∧ k % 4 = 0
  · obtain ⟨j, rfl⟩ : ∃ j, k = 4 + 4 * j := ⟨(k - 4) / 4, by omega⟩
    have e : (fwdL x ps).take (4 + 4 * j) = fwdL x (ps.take j) := by
      unfold fwdL
      rw [show 4 + 4 * j = (bes 4 [x]).length + 4 * j by simp [bes_len], List.take_length_add_append, pairs_take4]
    rw [e, fwd_E x _ hx (fun q hq => hb q (List.mem_of_mem_take hq)), decide_eq_true h.1, decide_eq_true h.2]
    rfl
  · have : fwdE 192 0 ((fwdL x ps).take k) = false := by
      rw [Bool.eq_false_iff]
      intro hE
      unfold fwdE at hE
      simp only [Bool.and_eq_true, decide_eq_true_eq] at hE
      have h2 := congrArg List.length hE.2
      rw [fwdL_len, hz] at h2
      unfold fwdPs at h2
      rw [prs_len, hz] at h2
      omega
    rw [this]
    symm
    rw [Bool.and_eq_false_iff, decide_eq_false_iff_not, decide_eq_false_iff_not]
    omega

/-! data and its flags -/
theorem fl_flags (u f l : Bool) : fl (flagsV u f l) 4 = u ∧ fl (flagsV u f l) 2 = f ∧ fl (flagsV u f l) 1 = l ∧ 0 ≤ flagsV u f l ∧ flagsV u f l < 8 := by cases u <;> cases f <;> cases l <;> decide
theorem flags_small : ∀ n : Fin 256, (flagsV (fl (n.val : Int) 4) (fl (n.val : Int) 2) (fl (n.val : Int) 1) == (n.val : Int)) = decide ((n.val : Int) < 8) := by decide
theorem flags_eq (f : Int) (h : 0 ≤ f ∧ f < 256) : (flagsV (fl f 4) (fl f 2) (fl f 1) == f) = decide (f < 8) := by
  obtain ⟨n, rfl⟩ := Int.eq_ofNat_of_zero_le h.1
  exact flags_small ⟨n, by omega⟩
theorem data_E (t s q f : Int) (bs : List Int) (ht : 0 ≤ t ∧ t < 4294967296) (hs : 0 ≤ s ∧ s < 65536) (hq : 0 ≤ q ∧ q < 65536) (hf : 0 ≤ f ∧ f < 256) : dataE 0 f (dataL t s q bs) = (decide (0 < bs.length) && decide (f < 8)) := by
  unfold dataE
  rw [data_t t s q bs ht, data_s t s q bs hs, data_q t s q bs hq, data_drop, flags_eq f hf, dataL_len]
  by_cases h : 0 < bs.length
  · rw [decide_eq_true h, decide_eq_true (show 12 < 12 + bs.length by omega)]
    simp
  · rw [decide_eq_false h, decide_eq_false (show ¬ (12 < 12 + bs.length) by omega)]
    simp
theorem cut_data (t s q f : Int) (bs : List Int) (ht : 0 ≤ t ∧ t < 4294967296) (hs : 0 ≤ s ∧ s < 65536) (hq : 0 ≤ q ∧ q < 65536) (hf : 0 ≤ f ∧ f < 256) {k : Nat} (hk : k ≤ (dataL t s q bs).length) : dataE 0 f ((dataL t s q bs).take k) = (decide (f < 8) && decide (12 < k)) := by
  have hz : ((dataL t s q bs).take k).length = k := by rw [List.length_take]; omega
  by_cases h : 12 < k
  · have e : (dataL t s q bs).take k = dataL t s q (bs.take (k - 12)) := by
      have hl : (bes 4 [t] ++ bes 2 [s, q] ++ bes 4 [0]).length = 12 := by simp [bes_len]
      unfold dataL
      rw [show k = (bes 4 [t] ++ bes 2 [s, q] ++ bes 4 [0]).length + (k - 12) by rw [hl]; omega, List.take_length_add_append, show (bes 4 [t] ++ bes 2 [s, q] ++ bes 4 [0]).length + (k - 12) - 12 = k - 12 by rw [hl]; omega]
    rw [dataL_len] at hk
    rw [e, data_E t s q f _ ht hs hq hf, List.length_take, decide_eq_true (show 0 < min (k - 12) bs.length by omega), decide_eq_true h]
    simp
  · unfold dataE
    rw [hz, decide_eq_false h]
    simp
/-! times and numbers -/
theorem tim_time (x : Int) (h : -9223372036854775808 ≤ x ∧ x < 9223372036854775808) : tim (gt (timeL x) 4 8) = x := by
  rw [time_x]
  unfold tim
  rw [IntKind.wrap_i64]
  omega
theorem time_E (k x : Int) (hk : k = 4 ∨ k = 5) (h : -9223372036854775808 ≤ x ∧ x < 9223372036854775808) : timeE k 0 (timeL x) = true := by
  unfold timeE
  rw [tim_time x h]
  rcases hk with rfl | rfl <;> simp
theorem cum_E (x : Int) (h : 0 ≤ x ∧ x < 4294967296) : cumE 7 0 (cumL x) = true := by
  unfold cumE
  rw [cum_x x h]
  simp
theorem cut_time {k f : Int} {xs : List Int} (h : timeE k f xs = true) : xs.length = 12 := by
  unfold timeE at h
  simp only [Bool.and_eq_true, decide_eq_true_eq] at h
  rw [← h.2]
  simp [timeL, bes_len]
theorem cut_cum {k f : Int} {xs : List Int} (h : cumE k f xs = true) : xs.length = 4 := by
  unfold cumE at h
  simp only [Bool.and_eq_true, decide_eq_true_eq] at h
  rw [← h.2]
  simp [cumL, bes_len]
/-! by kinds -/
theorem any_2 (f : Int) (xs : List Int) : gotAny 2 f xs = initE 2 f xs := by simp [gotAny, dataE, sackE, fwdE, timeE, cumE]
theorem any_3 (f : Int) (xs : List Int) : gotAny 3 f xs = sackE 3 f xs := by simp [gotAny, dataE, initE, initMay, fwdE, timeE, cumE]
theorem any_192 (f : Int) (xs : List Int) : gotAny 192 f xs = fwdE 192 f xs := by simp [gotAny, dataE, initE, initMay, sackE, timeE, cumE]
theorem any_4 (f : Int) (xs : List Int) : gotAny 4 f xs = timeE 4 f xs := by simp [gotAny, dataE, initE, initMay, sackE, fwdE, cumE]
theorem any_7 (f : Int) (xs : List Int) : gotAny 7 f xs = cumE 7 f xs := by simp [gotAny, dataE, initE, initMay, sackE, fwdE, timeE]
theorem any_flag {k f : Int} (xs : List Int) (hk : k ≠ 0) (hf : f ≠ 0) : gotAny k f xs = false := by
  have h1 : ((0 : Int) == f) = false := beq_eq_false_iff_ne.2 (fun e => hf e.symm)
  have h2 : ((0 : Int) == k) = false := beq_eq_false_iff_ne.2 (fun e => hk e.symm)
  simp [gotAny, dataE, initE, sackE, fwdE, timeE, cumE, h1, h2]

/-- What is told of a chunk of the list: where it is cut, and where it has a flag. -/
def wholeB (k : Int) (len j : Nat) : Bool := if k = 192 then decide (4 ≤ j) && decide (j % 4 = 0) else decide (j = len)
def Told (k : Int) (xs : List Int) : Prop := k ≠ 0 ∧ (0 ≤ k ∧ k < 256) ∧ ∀ j, j ≤ xs.length → (gotAny k 0 (xs.take j) = true → wholeB k xs.length j = true) ∧ (wholeB k xs.length j = true → gotAny k 0 (xs.take j) = gotAny k 0 xs)
theorem told_of {k : Int} {xs : List Int} (h0 : k ≠ 0) (h1 : 0 ≤ k ∧ k < 256) (hk : k ≠ 192) (h : ∀ j, j ≤ xs.length → gotAny k 0 (xs.take j) = true → j = xs.length) : Told k xs := by
  refine ⟨h0, h1, fun j hj => ?_⟩
  unfold wholeB
  rw [if_neg hk]
  refine ⟨fun e => decide_eq_true (h j hj e), fun e => ?_⟩
  rw [decide_eq_true_eq] at e
  subst e
  rw [List.take_of_length_le (Nat.le_refl _)]
theorem told_init (a b c d e : Int) {bs : List Int} (h : bs.length ≤ 60000) : Told 2 (initL 2 a b c d e bs) := told_of (by decide) (by decide) (by decide) fun j hj hE => by
  rw [any_2] at hE
  exact cut_init h hj hE
theorem told_sack (a b : Int) {ps : List (Int × Int)} {ds : List Int} (hp : ps.length < 65536) (hd : ds.length < 65536) : Told 3 (sackL a b ps ds) := told_of (by decide) (by decide) (by decide) fun j hj hE => by
  rw [any_3] at hE
  exact cut_sack hp hd hj hE
theorem told_time (x : Int) : Told 4 (timeL x) := told_of (by decide) (by decide) (by decide) fun j hj hE => by
  rw [any_4] at hE
  have h1 := cut_time hE
  have h2 : (timeL x).length = 12 := by simp [timeL, bes_len]
  rw [List.length_take] at h1
  omega
theorem told_cum (x : Int) : Told 7 (cumL x) := told_of (by decide) (by decide) (by decide) fun j hj hE => by
  rw [any_7] at hE
  have h1 := cut_cum hE
  have h2 : (cumL x).length = 4 := by simp [cumL, bes_len]
  rw [List.length_take] at h1
  omega
theorem told_fwd (x : Int) (ps : List (Int × Int)) (hx : 0 ≤ x ∧ x < 4294967296) (hb : ∀ q ∈ ps, (0 ≤ q.1 ∧ q.1 < 65536) ∧ (0 ≤ q.2 ∧ q.2 < 65536)) : Told 192 (fwdL x ps) := by
  refine ⟨by decide, by decide, fun j hj => ?_⟩
  unfold wholeB
  rw [if_pos rfl, any_192, any_192, cut_fwd hx hb hj, fwd_E x ps hx hb]
  exact ⟨id, id⟩
end Go.Proofs.Ytedbmpfjikaljaa
