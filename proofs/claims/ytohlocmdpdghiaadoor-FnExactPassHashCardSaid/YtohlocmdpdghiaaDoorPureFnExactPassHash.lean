/- PassHash: salt and word hashed, and hashed again with the salt, come to one hash, or to one refusal, for all arguments. -/
import Derived.Test.YtohlocmdpdghiaaDoorPHpx5
import Derived.Test.YtohlocmdpdghiaaDoorBase
import Derived.Laws.BitsAllLaws
import Derived.Laws.BitsLemmas
set_option linter.unusedSimpArgs false
set_option linter.unusedVariables false
namespace Go.Proofs.YtohlocmdpdghiaaDoor.Pure
open Go.RowKit Go.Proofs.YtohlocmdpdghiaaDoor.PHp Go.Proofs.YtohlocmdpdghiaaDoorW.PrintWords Go.Proofs.YtohlocmdpdghiaaDoorW.PrintLast Go.Proofs.YtohlocmdpdghiaaDoorW.PrintMore Base

/-! ### rows of bytes and the strings of them -/
def Bytes (l : List Int) : Prop := ∀ x ∈ l, 0 ≤ x ∧ x < 256
theorem bytes_wf {l : List Int} (h : ∀ x ∈ l, (Lit.int .u8 x).wf = true) : Bytes l := fun x hx => wf_u8 (h x hx)
theorem bytes_take {l : List Int} (h : Bytes l) (n : Nat) : Bytes (l.take n) := fun x hx => h x (List.mem_of_mem_take hx)
theorem bytes_drop {l : List Int} (h : Bytes l) (n : Nat) : Bytes (l.drop n) := fun x hx => h x (List.mem_of_mem_drop hx)
theorem rd_nat (l : List Int) (i : Nat) : rd l (i : Int) = l.getD i 0 := by simp [rd]
theorem rd_at (l : List Int) (i : Nat) (h : i < l.length) : rd l (i : Int) = l[i] := by
  rw [rd_nat, List.getD_eq_getElem?_getD, List.getElem?_eq_getElem h]; rfl
theorem rd_byte {l : List Int} (h : Bytes l) (i : Nat) : 0 ≤ rd l (i : Int) ∧ rd l (i : Int) < 256 := by
  by_cases hi : i < l.length
  · rw [rd_at l i hi]; exact h _ (List.getElem_mem hi)
  · rw [rd_nat, List.getD_eq_getElem?_getD, List.getElem?_eq_none (by omega)]; simp
theorem str_bt {l : List Int} (h : Bytes l) (i : Nat) : bt (strOfNums l) (i : Int) = rd l (i : Int) := by
  rw [bt_nat, strOfNums_data, rd_nat, List.getD_eq_getElem?_getD, List.getD_eq_getElem?_getD, List.getElem?_map]
  by_cases hi : i < l.length
  · rw [List.getElem?_eq_getElem hi]
    simp only [Option.map_some, Option.getD_some]
    have := h _ (List.getElem_mem hi)
    rw [UInt8.toNat_ofNat']; omega
  · rw [List.getElem?_eq_none (by omega)]; rfl
theorem str_cut (l : List Int) (a b : Nat) : (strOfNums l).extract a b = strOfNums ((l.take b).drop a) := by
  apply toList_inj
  rw [toList_data, toList_data, strOfNums_data, ByteArray.data_extract, Array.toList_extract, List.extract_eq_take_drop, strOfNums_data, List.map_drop, List.map_take, List.drop_take]
theorem str_size (l : List Int) : (strOfNums l).size = l.length := strOfNums_size l

/-! ### the number of a row of bytes, high byte first -/
def num (l : List Int) : Int := l.foldl (fun n c => n * 256 + c) 0
theorem num_snoc (l : List Int) (c : Int) : num (l ++ [c]) = num l * 256 + c := by simp [num]
theorem num_take (l : List Int) (i : Nat) (h : i < l.length) : num (l.take (i + 1)) = num (l.take i) * 256 + l[i] := by
  rw [List.take_succ_eq_append_getElem h, num_snoc]
theorem num_0 {l : List Int} (h : Bytes l) : ∀ i, i ≤ l.length → 0 ≤ num (l.take i) ∧ num (l.take i) < 256 ^ i := by
  intro i
  induction i with
  | zero => intro _; rw [List.take_zero]; exact ⟨by decide, by decide⟩
  | succ i ih =>
    intro hi
    have h1 := ih (by omega)
    have h2 := h _ (List.getElem_mem (show i < l.length by omega))
    rw [num_take l i (by omega), Int.pow_succ]
    omega
theorem num_6 {l : List Int} (h : Bytes l) (i : Nat) (hi : i ≤ l.length) (h7 : i ≤ 6) : 0 ≤ num (l.take i) ∧ num (l.take i) < 281474976710656 := by
  have h1 := num_0 h i hi
  rcases (show i = 0 ∨ i = 1 ∨ i = 2 ∨ i = 3 ∨ i = 4 ∨ i = 5 ∨ i = 6 by omega) with e | e | e | e | e | e | e <;> rw [e] at h1 ⊢ <;> omega
theorem num_lt {l : List Int} (h : Bytes l) (n : Nat) (hn : l.length = n) : 0 ≤ num l ∧ num l < 256 ^ n := by
  have := num_0 h l.length (Nat.le_refl _)
  rw [List.take_length] at this; rw [hn] at this; exact this


/-! ### the hash of bytes: the reference's rows come to the program's arrays -/
theorem or_comm32 (a b : Int) : Go.bits .or .u32 a b = Go.bits .or .u32 b a := by
  show IntKind.u32.wrap ((BitVec.ofInt 32 a ||| BitVec.ofInt 32 b).toNat : Int) = IntKind.u32.wrap ((BitVec.ofInt 32 b ||| BitVec.ofInt 32 a).toNat : Int)
  rw [BitVec.or_comm]
theorem turn_n (x : Int) (n : Nat) (h0 : 0 < n) (h1 : n < 32) : spec_l04Turn.f x (n : Int) = some (Sha.rgt x n) := by
  have hw : IntKind.u64.wrap (32 - (n : Int)) = ((32 - n : Nat) : Int) := by rw [wrap_u64]; omega
  unfold spec_l04Turn.f
  rw [if_pos (by omega), hw, if_pos (by omega), or_comm32]
  have e1 : shl .u32 x ((32 - n : Nat) : Int) = x * 2 ^ (32 - n) % 4294967296 := by
    show IntKind.u32.wrap (x * 2 ^ min (((32 - n : Nat) : Int)).toNat 32) = _
    rw [wrap_u32, Int.toNat_natCast, Nat.min_eq_left (by omega)]
  have e2 : shr .u32 x (n : Int) = x / 2 ^ n := by
    show x / 2 ^ min ((n : Int)).toNat 32 = _
    rw [Int.toNat_natCast, Nat.min_eq_left (by omega)]
  rw [e1, e2]
  rfl
theorem turn_2 (x : Int) : spec_l04Turn.f x 2 = some (Sha.rgt x 2) := turn_n x 2 (by decide) (by decide)
theorem turn_6 (x : Int) : spec_l04Turn.f x 6 = some (Sha.rgt x 6) := turn_n x 6 (by decide) (by decide)
theorem turn_7 (x : Int) : spec_l04Turn.f x 7 = some (Sha.rgt x 7) := turn_n x 7 (by decide) (by decide)
theorem turn_11 (x : Int) : spec_l04Turn.f x 11 = some (Sha.rgt x 11) := turn_n x 11 (by decide) (by decide)
theorem turn_13 (x : Int) : spec_l04Turn.f x 13 = some (Sha.rgt x 13) := turn_n x 13 (by decide) (by decide)
theorem turn_17 (x : Int) : spec_l04Turn.f x 17 = some (Sha.rgt x 17) := turn_n x 17 (by decide) (by decide)
theorem turn_18 (x : Int) : spec_l04Turn.f x 18 = some (Sha.rgt x 18) := turn_n x 18 (by decide) (by decide)
theorem turn_19 (x : Int) : spec_l04Turn.f x 19 = some (Sha.rgt x 19) := turn_n x 19 (by decide) (by decide)
theorem turn_22 (x : Int) : spec_l04Turn.f x 22 = some (Sha.rgt x 22) := turn_n x 22 (by decide) (by decide)
theorem turn_25 (x : Int) : spec_l04Turn.f x 25 = some (Sha.rgt x 25) := turn_n x 25 (by decide) (by decide)
theorem wr32 : ∀ n : Int, 0 ≤ n → n < 2 ^ 32 → IntKind.u32.wrap n = n := fun n h0 h1 => by rw [wrap_u32]; omega
theorem or_word (a b c d : Int) (ha : 0 ≤ a ∧ a < 256) (hb : 0 ≤ b ∧ b < 256) (hc : 0 ≤ c ∧ c < 256) (hd : 0 ≤ d ∧ d < 256) :
    Go.bits .or .u32 (Go.bits .or .u32 (Go.bits .or .u32 (((a % 4294967296) * 16777216) % 4294967296) (((b % 4294967296) * 65536) % 4294967296)) (((c % 4294967296) * 256) % 4294967296)) (d % 4294967296)
      = (((a * 256 + b) * 256 + c) * 256 + d) % 4294967296 := by
  have e1 : ((a % 4294967296) * 16777216) % 4294967296 = a * 16777216 := by omega
  have e2 : ((b % 4294967296) * 65536) % 4294967296 = b * 65536 := by omega
  have e3 : ((c % 4294967296) * 256) % 4294967296 = c * 256 := by omega
  have e4 : d % 4294967296 = d := by omega
  rw [e1, e2, e3, e4]
  rw [bits_join .u32 32 (by decide) wr32 24 (a * 16777216) (b * 65536) (by omega) (by omega) (by omega) (by omega) (by omega) (by omega)]
  rw [bits_join .u32 32 (by decide) wr32 16 (a * 16777216 + b * 65536) (c * 256) (by omega) (by omega) (by omega) (by omega) (by omega) (by omega)]
  rw [bits_join .u32 32 (by decide) wr32 8 (a * 16777216 + b * 65536 + c * 256) d (by omega) (by omega) (by omega) (by omega) (by omega) (by omega)]
  omega
theorem rd_byte' {l : List Int} (h : Bytes l) (i : Int) : 0 ≤ rd l i ∧ rd l i < 256 := Sha.bytes_rd h i
theorem block_l0 (hs l ks : List Int) (h64 : l.length = 64) (hl : Bytes l) (R : List Int) (hn : Ev (fun k => spec_l04Block.l1 k hs ks (Sha.wst l 16) 16) R) (d : Nat) :
    ∀ i : Nat, i + d = 16 → Ev (fun k => spec_l04Block.l0 k hs l ks (Sha.wst l i) (i : Int)) R := by
  induction d with
  | zero =>
    intro i hi
    obtain rfl : i = 16 := by omega
    refine Ev.step (fun k => ?_) hn
    simp only [spec_l04Block.l0]; rw [if_neg (by omega)]
  | succ d ih =>
    intro i hi
    have wl := Sha.wst_length l i
    have w0 : wrap64 (4 * (i : Int)) = 4 * i := wrap64_id (by omega) (by omega)
    have w1 : wrap64 (4 * (i : Int) + 1) = 4 * i + 1 := wrap64_id (by omega) (by omega)
    have w2 : wrap64 (4 * (i : Int) + 2) = 4 * i + 2 := wrap64_id (by omega) (by omega)
    have w3 : wrap64 (4 * (i : Int) + 3) = 4 * i + 3 := wrap64_id (by omega) (by omega)
    have w4 : wrap64 ((i : Int) + 1) = ((i + 1 : Nat) : Int) := by rw [wrap64_id (by omega) (by omega)]; omega
    refine Ev.step (fun k => ?_) (ih (i + 1) (by omega))
    have hnx : Sha.wst l (i + 1) = (Sha.wst l i).set i (Sha.word4 l i % 4294967296) := by
      show (Sha.wst l i).set i (Sha.wNext l (Sha.wst l i) i) = _
      unfold Sha.wNext
      rw [if_pos (by omega)]
    simp only [spec_l04Block.l0, w0, w1, w2, w3, w4]
    rw [if_pos (by omega), if_pos (by omega), if_pos (by omega), if_pos (by omega), if_pos (by omega), if_pos (by omega), if_pos (by omega), if_pos (by omega), if_pos (by omega), if_pos (by omega), if_pos (by omega),
      or_word _ _ _ _ (rd_byte' hl _) (rd_byte' hl _) (rd_byte' hl _) (rd_byte' hl _), hnx]
    rfl
theorem block_l1 (hs l ks : List Int) (R : List Int) (hhs : hs.length = 8) (hn : Ev (fun k => spec_l04Block.l2 k hs ks (Sha.wst l 64) hs 0) R) (d : Nat) :
    ∀ i : Nat, i + d = 64 → 16 ≤ i → Ev (fun k => spec_l04Block.l1 k hs ks (Sha.wst l i) (i : Int)) R := by
  induction d with
  | zero =>
    intro i hi _
    obtain rfl : i = 64 := by omega
    refine Ev.step (fun k => ?_) hn
    simp only [spec_l04Block.l1, Option.bind_some, List.nil_append, List.length_nil]; rw [if_neg (by omega), if_pos (by omega)]
  | succ d ih =>
    intro i hi h16
    have wl := Sha.wst_length l i
    have w0 : wrap64 ((i : Int) - 15) = i - 15 := wrap64_id (by omega) (by omega)
    have w1 : wrap64 ((i : Int) - 2) = i - 2 := wrap64_id (by omega) (by omega)
    have w2 : wrap64 ((i : Int) - 16) = i - 16 := wrap64_id (by omega) (by omega)
    have w3 : wrap64 ((i : Int) - 7) = i - 7 := wrap64_id (by omega) (by omega)
    have w4 : wrap64 ((i : Int) + 1) = ((i + 1 : Nat) : Int) := by rw [wrap64_id (by omega) (by omega)]; omega
    refine Ev.step (fun k => ?_) (ih (i + 1) (by omega) (by omega))
    obtain ⟨ws, hws⟩ : ∃ ws, ws = Sha.wst l i := ⟨_, rfl⟩
    have hnx : Sha.wst l (i + 1) = ws.set i (Sha.wNext l ws i) := by rw [hws]; rfl
    rw [hnx, ← hws]
    rw [← hws] at wl
    have hv : Sha.wNext l ws i = ((((rd ws ((i : Int) - 16) + Sha.sigA (rd ws ((i : Int) - 15))) % 4294967296 + rd ws ((i : Int) - 7)) % 4294967296) + Sha.sigB (rd ws ((i : Int) - 2))) % 4294967296 := by
      unfold Sha.wNext
      rw [if_neg (by omega)]
      generalize Sha.sigA _ = A
      generalize Sha.sigB _ = B
      omega
    rw [hv]
    unfold Sha.sigA Sha.sigB
    simp only [spec_l04Block.l1, w0, w1, w2, w3, w4, turn_7, turn_18, turn_17, turn_19, Option.bind_some]
    rw [if_pos (by omega), if_pos (by omega), if_pos (by omega), if_pos (by omega), if_pos (by omega), if_pos (by omega), if_pos (by omega), if_pos (by omega), if_pos (by omega), if_pos (by omega), if_pos (by omega)]
    rfl
theorem block_l3 (hs v : List Int) (hhs : hs.length = 8) (hv : v.length = 8) (d : Nat) : ∀ i : Nat, i + d = 8 → Ev (fun k => spec_l04Block.l3 k (Sha.addk hs v i) v (i : Int)) (Sha.addk hs v 8) := by
  induction d with
  | zero =>
    intro i hi
    obtain rfl : i = 8 := by omega
    refine Ev.step (f := fun _ => some _) (fun k => ?_) (Ev.now _)
    simp only [spec_l04Block.l3]; rw [if_neg (by omega)]
  | succ d ih =>
    intro i hi
    have al := Sha.addk_length hs v i
    have w4 : wrap64 ((i : Int) + 1) = ((i + 1 : Nat) : Int) := by rw [wrap64_id (by omega) (by omega)]; omega
    refine Ev.step (fun k => ?_) (ih (i + 1) (by omega))
    simp only [spec_l04Block.l3, w4]
    rw [if_pos (by omega), if_pos (by omega), if_pos (by omega), if_pos (by omega)]
    rfl
theorem umax : IntKind.u32.max = 4294967295 := rfl
theorem block_l2 (hs ws ks : List Int) (hhs : hs.length = 8) (hws : ws.length = 64) (hks : ks.length = 64) (d : Nat) :
    ∀ i : Nat, i + d = 64 → Ev (fun k => spec_l04Block.l2 k hs ks ws (Sha.rnds ks ws hs i) (i : Int)) (Sha.addk hs (Sha.rnds ks ws hs 64) 8) := by
  induction d with
  | zero =>
    intro i hi
    obtain rfl : i = 64 := by omega
    refine Ev.step (fun k => ?_) (block_l3 hs (Sha.rnds ks ws hs 64) hhs (Sha.rnds_length ks ws hs hhs 64) 8 0 (by omega))
    simp only [spec_l04Block.l2]; rw [if_neg (by omega)]; rfl
  | succ d ih =>
    intro i hi
    have vl := Sha.rnds_length ks ws hs hhs i
    have w4 : wrap64 ((i : Int) + 1) = ((i + 1 : Nat) : Int) := by rw [wrap64_id (by omega) (by omega)]; omega
    refine Ev.step (fun k => ?_) (ih (i + 1) (by omega))
    obtain ⟨v, hv⟩ : ∃ v, v = Sha.rnds ks ws hs i := ⟨_, rfl⟩
    have hnx : Sha.rnds ks ws hs (i + 1) = Sha.rnd ks ws v i := by rw [hv]; rfl
    rw [hnx, ← hv]
    rw [← hv] at vl
    unfold Sha.rnd Sha.rOne Sha.rTwo
    simp only [spec_l04Block.l2, w4, turn_6, turn_11, turn_25, turn_2, turn_13, turn_22, Option.bind_some, wrap_u32, umax]
    rw [if_pos (by omega), if_pos (by omega), if_pos (by omega), if_pos (by omega), if_pos (by omega), if_pos (by omega), if_pos (by omega), if_pos (by omega), if_pos (by omega), if_pos (by omega), if_pos (by omega), if_pos (by omega)]
theorem block_ev (hs l ks : List Int) (hhs : hs.length = 8) (h64 : l.length = 64) (hl : Bytes l) (hks : ks.length = 64) : Ev (fun k => spec_l04Block.f k hs l ks) (Sha.blockI ks hs l) := by
  have h2 := block_l2 hs (Sha.wst l 64) ks hhs (Sha.wst_length l 64) hks 64 0 (by omega)
  have h1 := block_l1 hs l ks _ hhs h2 48 16 (by omega) (by omega)
  have h0 := block_l0 hs l ks h64 hl _ h1 16 0 (by omega)
  refine Ev.congr (fun k => ?_) h0
  unfold spec_l04Block.f
  rw [if_pos (by decide)]
  rfl
theorem hash_l3 (h : List Int) (hh : h.length = 8) (d : Nat) : ∀ i : Nat, i + d = 8 → Ev (fun k => spec_l04Hash.l3 k h (Sha.outUpto h i) (i : Int)) (strOfNums (h.flatMap Sha.be4)) := by
  induction d with
  | zero =>
    intro i hi
    obtain rfl : i = 8 := by omega
    refine Ev.step (f := fun _ => some _) (fun k => ?_) (Ev.now _)
    simp only [spec_l04Hash.l3]; rw [if_neg (by omega)]
    unfold Sha.outUpto
    rw [List.take_of_length_le (by omega)]
  | succ d ih =>
    intro i hi
    have ol := Sha.outUpto_length h i (by omega)
    have w4 : wrap64 ((i : Int) + 1) = ((i + 1 : Nat) : Int) := by rw [wrap64_id (by omega) (by omega)]; omega
    have hb : ∀ x : Int, Sha.be4 x = [(x / 16777216) % 256, (x / 65536) % 256, (x / 256) % 256, x % 256] := fun x => by
      have e0 : shr .i64 x 0 = x := by show x / 2 ^ min (0 : Int).toNat 64 = _; simp
      have e1 : shr .i64 x 8 = x / 256 := by show x / 2 ^ min (8 : Int).toNat 64 = _; simp
      have e2 : shr .i64 x 16 = x / 65536 := by show x / 2 ^ min (16 : Int).toNat 64 = _; simp
      have e3 : shr .i64 x 24 = x / 16777216 := by show x / 2 ^ min (24 : Int).toNat 64 = _; simp
      unfold Sha.be4
      rw [e0, e1, e2, e3]
    refine Ev.step (fun k => ?_) (ih (i + 1) (by omega))
    rw [Sha.outUpto_succ h i (by omega), hb]
    simp only [spec_l04Hash.l3, w4, Option.bind_some, List.length_cons, List.length_nil]
    rw [if_pos (by omega), if_pos (by omega), if_pos (by omega), if_pos (by omega)]
theorem hash_l2 (all : List Int) (m : Nat) (hal : all.length = 64 * m) (hm : m ≤ 1000000) (hl : Bytes all) (hs : List Int) (hhs : hs.length = 8) (d : Nat) :
    ∀ q : Nat, q + d = m → Ev (fun k => spec_l04Hash.l2 k (Sha.hFold Sha.tab all hs (List.range q)) all Sha.tab ((64 * q : Nat) : Int)) (strOfNums ((Sha.hFold Sha.tab all hs (List.range m)).flatMap Sha.be4)) := by
  induction d with
  | zero =>
    intro q hq
    obtain rfl : q = m := by omega
    refine Ev.step (fun k => ?_) (hash_l3 _ (Sha.hFold_length _ hhs) 8 0 (by omega))
    simp only [spec_l04Hash.l2]; rw [if_neg (by omega)]; rfl
  | succ d ih =>
    intro q hq
    have w4 : wrap64 (((64 * q : Nat) : Int) + 64) = ((64 * (q + 1) : Nat) : Int) := by rw [wrap64_id (by omega) (by omega)]; omega
    have hcl := Sha.chunkAt_length hal (show q < m by omega)
    have hcb : Bytes (Sha.chunkAt all q) := Sha.chunk_by hl q
    have hih := ih (q + 1) (by omega)
    rw [List.range_succ] at hih
    have hf : Sha.hFold Sha.tab all hs (List.range q ++ [q]) = Sha.blockI Sha.tab (Sha.hFold Sha.tab all hs (List.range q)) (Sha.chunkAt all q) := by
      unfold Sha.hFold
      rw [List.foldl_append]
      rfl
    rw [hf] at hih
    refine Ev.step (f := fun k => (spec_l04Block.f k (Sha.hFold Sha.tab all hs (List.range q)) (Sha.chunkAt all q) Sha.tab).bind fun t => spec_l04Hash.l2 k t all Sha.tab ((64 * (q + 1) : Nat) : Int)) (fun k => ?_)
      (Ev.bind (block_ev _ _ _ (Sha.hFold_length _ hhs) hcl hcb rfl) hih)
    have e1 : (((64 * (q + 1) : Nat) : Int)).toNat = 64 * q + 64 := by omega
    have e2 : (((64 * q : Nat) : Int)).toNat = 64 * q := by omega
    simp only [spec_l04Hash.l2, w4, e1, e2]
    rw [if_pos (by omega), if_pos (by omega), if_pos (by omega), if_pos (by omega)]
    rfl
theorem hash_l1_step (l0 h x : List Int) (k i : Nat) (hi : i < 8) (hl : l0.length ≤ 1000000) (hx : x.length ≤ 2000000) :
    spec_l04Hash.l1 (k + 1) l0 h x (i : Int) = spec_l04Hash.l1 k l0 h (x ++ [shr .i64 (8 * (l0.length : Int)) ((8 * i : Nat) : Int) % 256]) ((i : Int) - 1) := by
  have w0 : wrap64 (8 * (l0.length : Int)) = 8 * (l0.length : Int) := wrap64_id (by omega) (by omega)
  have w1 : IntKind.u64.wrap (wrap64 (8 * (i : Int))) = ((8 * i : Nat) : Int) := by rw [wrap64_id (by omega) (by omega), wrap_u64]; omega
  have w2 : wrap64 ((i : Int) - 1) = (i : Int) - 1 := wrap64_id (by omega) (by omega)
  simp only [spec_l04Hash.l1, w0, w1, w2]
  rw [if_pos (by omega), if_pos (by omega), if_pos (by omega)]
theorem consts_ev : spec_l04Consts.f = some Sha.tab := rfl
theorem hash_l1 (l0 h x : List Int) (hl : l0.length ≤ 1000000) (hx : x.length ≤ 1900000) (R : ByteArray) (hn : Ev (fun k => spec_l04Hash.l2 k h (x ++ Sha.be8 (8 * (l0.length : Int))) Sha.tab 0) R) :
    Ev (fun k => spec_l04Hash.l1 k l0 h x 7) R := by
  have hend : Ev (fun k => spec_l04Hash.l1 k l0 h (x ++ Sha.be8 (8 * (l0.length : Int))) (-1)) R := by
    refine Ev.step (fun k => ?_) hn
    simp only [spec_l04Hash.l1, consts_ev, Option.bind_some]; rw [if_neg (by omega)]
  have st : ∀ (i : Nat) (y : List Int), i < 8 → y.length ≤ 2000000 → Ev (fun k => spec_l04Hash.l1 k l0 h (y ++ [shr .i64 (8 * (l0.length : Int)) ((8 * i : Nat) : Int) % 256]) ((i : Int) - 1)) R → Ev (fun k => spec_l04Hash.l1 k l0 h y (i : Int)) R :=
    fun i y hi hy he => Ev.step (fun k => hash_l1_step l0 h y k i hi hl hy) he
  refine st 7 _ (by omega) (by omega) ?_
  refine st 6 _ (by omega) (by simp; omega) ?_
  refine st 5 _ (by omega) (by simp; omega) ?_
  refine st 4 _ (by omega) (by simp; omega) ?_
  refine st 3 _ (by omega) (by simp; omega) ?_
  refine st 2 _ (by omega) (by simp; omega) ?_
  refine st 1 _ (by omega) (by simp; omega) ?_
  refine st 0 _ (by omega) (by simp; omega) ?_
  simp only [List.append_assoc, List.cons_append, List.nil_append]
  exact hend
theorem hash_l0 (l0 h : List Int) (hl : l0.length ≤ 1000000) (R : ByteArray) (hn : Ev (fun k => spec_l04Hash.l2 k h (Sha.shaAll l0) Sha.tab 0) R) (d : Nat) :
    ∀ j : Nat, j + d = Sha.padN l0.length → Ev (fun k => spec_l04Hash.l0 k l0 h (Sha.pad l0 j)) R := by
  induction d with
  | zero =>
    intro j hj
    have pl := Sha.pad_length l0 j
    refine Ev.step (fun k => ?_) (hash_l1 l0 h (Sha.pad l0 j) hl (by unfold Sha.padN at hj; omega) R (by
      have : Sha.pad l0 j ++ Sha.be8 (8 * (l0.length : Int)) = Sha.shaAll l0 := by
        unfold Sha.shaAll
        rw [show j = Sha.padN l0.length by omega]
      rw [this]; exact hn))
    simp only [spec_l04Hash.l0]; rw [if_pos (by rw [pl]; unfold Sha.padN at hj; omega)]
  | succ d ih =>
    intro j hj
    have pl := Sha.pad_length l0 j
    refine Ev.step (fun k => ?_) (ih (j + 1) (by omega))
    have e : Sha.pad l0 (j + 1) = Sha.pad l0 j ++ [0] := by simp [Sha.pad, List.replicate_succ']
    rw [e]
    simp only [spec_l04Hash.l0]; rw [if_neg (by rw [pl]; unfold Sha.padN at hj; omega), if_pos (by unfold Sha.padN at hj; omega)]
theorem hash_ev (l0 : List Int) (hl : l0.length ≤ 1000000) (hb : Bytes l0) : Ev (fun k => spec_l04Hash.f k l0) (Sha.shaS Sha.tab l0) := by
  have hal := Sha.shaAll_length l0
  have h2 := hash_l2 (Sha.shaAll l0) (Sha.shaM l0.length) hal (by unfold Sha.shaM Sha.padN; omega) (Sha.shaAll_by hb) Sha.H0 rfl (Sha.shaM l0.length) 0 (by omega)
  have h0 := hash_l0 l0 Sha.H0 hl _ h2 (Sha.padN l0.length) 0 (by omega)
  refine Ev.congr (fun k => ?_) h0
  unfold spec_l04Hash.f
  simp only [Option.bind_some, List.nil_append, List.length_nil]
  rw [if_pos (by omega), if_pos (by omega)]
  unfold Sha.pad Sha.H0
  rw [List.replicate_zero, List.append_nil]
theorem sha_is (l0 : List Int) (hl : l0.length ≤ 1000000) (hb : Bytes l0) : impl_sha.f l0 = some (Sha.shaS Sha.tab l0) := by
  unfold impl_sha.f
  rw [if_pos hl, if_pos (show ∀ x ∈ l0, 0 ≤ x ∧ x < 256 from hb)]

/-! ### the hash of salt and word, hashed again -/
theorem bytesOf_Bytes (s : ByteArray) : Bytes (bytesOf s) := by
  intro x hx
  unfold bytesOf at hx
  obtain ⟨b, _, rfl⟩ := List.mem_map.1 hx
  have := b.toNat_lt
  omega
theorem bytesOf_size (x : ByteArray) : (bytesOf x).length = x.size := bytesOf_length x
theorem shaS_size (l : List Int) : (Sha.shaS Sha.tab l).size = 32 := by
  unfold Sha.shaS
  have h := Sha.outUpto_length (Sha.shaH Sha.tab l) 8 (by rw [Sha.shaH_length]; omega)
  unfold Sha.outUpto at h
  rw [List.take_of_length_le (by rw [Sha.shaH_length]; omega)] at h
  rw [str_size, h]
def hashS (s : ByteArray) : ByteArray := Sha.shaS Sha.tab (bytesOf s)
theorem hashS_size (s : ByteArray) : (hashS s).size = 32 := shaS_size _
theorem hashS_spec (s : ByteArray) (h : s.size ≤ 1000000) : Ev (fun k => spec_l04Hash.f k (bytesOf s)) (hashS s) := hash_ev _ (by rw [bytesOf_size]; exact h) (bytesOf_Bytes s)
theorem hashS_impl (s : ByteArray) (h : s.size ≤ 1000000) : impl_sha.f (bytesOf s) = some (hashS s) := sha_is _ (by rw [bytesOf_size]; exact h) (bytesOf_Bytes s)
def passIt (x0 : ByteArray) : Nat → ByteArray → ByteArray
  | 0, h => h
  | n + 1, h => passIt x0 n (hashS (x0 ++ h))
def pass0 (a0 a1 : ByteArray) : ByteArray := hashS ((a0 ++ (⟨#[0]⟩ : ByteArray)) ++ a1)
theorem app_size (x y : ByteArray) : (x ++ y).size = x.size + y.size := ByteArray.size_append
theorem pass_l0 (x0 : ByteArray) (h0 : x0.size ≤ 100) (R : Nat) (hR : R ≤ 1000) (d : Nat) : ∀ (i : Nat) (h : ByteArray), h.size ≤ 100 → i + d = R →
    Ev (fun k => spec_l04Pass.l0 k x0 (R : Int) h (i : Int)) (passIt x0 d h) ∧ Ev (fun k => impl_passHash.l0 k x0 h (R : Int) (i : Int)) (passIt x0 d h) := by
  induction d with
  | zero =>
    intro i h hh hi
    refine ⟨Ev.step (f := fun _ => some h) (fun k => ?_) (Ev.now _), Ev.step (f := fun _ => some h) (fun k => ?_) (Ev.now _)⟩
    · simp only [spec_l04Pass.l0]; rw [if_neg (by omega)]
    · simp only [impl_passHash.l0]; rw [if_neg (by omega)]
  | succ d ih =>
    intro i h hh hi
    have w4 : wrap64 ((i : Int) + 1) = ((i + 1 : Nat) : Int) := by rw [wrap64_id (by omega) (by omega)]; omega
    have hs := app_size x0 h
    obtain ⟨i1, i2⟩ := ih (i + 1) (hashS (x0 ++ h)) (by rw [hashS_size]; omega) (by omega)
    refine ⟨Ev.step (f := fun k => (spec_l04Hash.f k (bytesOf (x0 ++ h))).bind fun t => spec_l04Pass.l0 k x0 (R : Int) t ((i + 1 : Nat) : Int)) (fun k => ?_) (Ev.bind (hashS_spec _ (by omega)) i1), Ev.step (fun k => ?_) i2⟩
    · simp only [spec_l04Pass.l0, w4]; rw [if_pos (by omega), if_pos (by omega), if_pos (by omega)]
    · simp only [impl_passHash.l0, w4]; rw [if_pos (by omega), if_pos (by omega), if_pos (by omega), hashS_impl _ (by omega), Option.bind_some]
theorem one_size : (⟨#[0]⟩ : ByteArray).size = 1 := rfl
theorem pass_ev (a0 a1 : ByteArray) (h0 : a0.size ≤ 40) (h1 : a1.size ≤ 40) (R : Nat) (hR : R ≤ 1000) :
    Ev (fun k => spec_l04Pass.f k a0 a1 (R : Int)) (passIt a0 R (pass0 a0 a1)) ∧ Ev (fun k => impl_passHash.f k a0 a1 (R : Int)) (passIt a0 R (pass0 a0 a1)) := by
  have e1 := app_size a0 (⟨#[0]⟩ : ByteArray)
  have e2 := app_size (a0 ++ (⟨#[0]⟩ : ByteArray)) a1
  have e3 := one_size
  obtain ⟨i1, i2⟩ := pass_l0 a0 (by omega) R hR R 0 (pass0 a0 a1) (by unfold pass0; rw [hashS_size]; omega) (by omega)
  refine ⟨Ev.congr (fun k => by unfold spec_l04Pass.f; rw [if_pos (by omega), if_pos (by omega), if_pos (by omega)]) (Ev.bind (hashS_spec _ (by omega)) i1), Ev.congr (fun k => ?_) i2⟩
  unfold impl_passHash.f
  rw [if_pos (by omega), if_pos (by omega), if_pos (by omega), hashS_impl _ (by omega), Option.bind_some]
  rfl
/-- What both answer. -/
def passA (a0 a1 : ByteArray) (n : Int) : ByteArray × Int :=
  if (a0.size : Int) > 65536 ∨ (a1.size : Int) > 65536 then (⟨#[]⟩, 2) else
  if (a0.size : Int) > 40 ∨ (a1.size : Int) > 40 ∨ n < 0 ∨ 20 < n then (⟨#[]⟩, 4) else (passIt a0 n.toNat (pass0 a0 a1), 0)
theorem in_is (n : Int) : spec_l04In.f n 0 20 = some (decide (0 ≤ n ∧ n ≤ 20)) := by
  unfold spec_l04In.f
  by_cases h : n ≥ 0
  · rw [if_pos h]; congr 1; simp [h]
  · rw [if_neg h]; congr 1; simp; omega
theorem within_is (n : Int) : impl_within.f n 0 20 = some (decide (0 ≤ n ∧ n ≤ 20)) := by
  unfold impl_within.f
  by_cases h : n ≥ 0
  · rw [if_pos h]; congr 1; simp [h]
  · rw [if_neg h]; congr 1; simp; omega
theorem passA_spec (a0 a1 : ByteArray) (n : Int) : Ev (fun k => spec_PassHash.f k a0 a1 n) (passA a0 a1 n) := by
  unfold passA
  have j_long : Ev (fun k => spec_PassHash.j0 k a0 a1 n true) (⟨#[]⟩, 2) := Ev.step (f := fun _ => some _) (fun k => by simp only [spec_PassHash.j0]; rw [if_pos trivial]) (Ev.now _)
  by_cases h1 : (a0.size : Int) > 65536
  · rw [if_pos (.inl h1)]
    exact Ev.congr (fun k => by unfold spec_PassHash.f; rw [if_pos h1]) j_long
  · by_cases h2 : (a1.size : Int) > 65536
    · rw [if_pos (.inr h2)]
      exact Ev.congr (fun k => by unfold spec_PassHash.f; rw [if_neg h1, decide_eq_true h2]) j_long
    · rw [if_neg (by omega)]
      refine Ev.congr (fun k => by unfold spec_PassHash.f; rw [if_neg h1, decide_eq_false h2]) ?_
      by_cases h3 : (a0.size : Int) > 40
      · rw [if_pos (.inl h3)]
        exact Ev.step (f := fun _ => some _) (fun k => by simp only [spec_PassHash.j0]; rw [if_neg (by decide), if_pos h3]) (Ev.now _)
      · by_cases h4 : (a1.size : Int) > 40
        · rw [if_pos (.inr (.inl h4))]
          exact Ev.step (f := fun _ => some _) (fun k => by simp only [spec_PassHash.j0]; rw [if_neg (by decide), if_neg h3, if_pos h4]) (Ev.now _)
        · by_cases h5 : 0 ≤ n ∧ n ≤ 20
          · rw [if_neg (by omega)]
            obtain ⟨i1, _⟩ := pass_ev a0 a1 (by omega) (by omega) n.toNat (by omega)
            rw [show ((n.toNat : Nat) : Int) = n by omega] at i1
            refine Ev.step (f := fun k => (spec_l04Pass.f k a0 a1 n).bind fun t => some (t, 0)) (fun k => ?_) (Ev.bind i1 (Ev.now _))
            simp only [spec_PassHash.j0, in_is, Option.bind_some]; rw [if_neg (by decide), if_neg h3, if_neg h4, decide_eq_true h5, if_pos rfl]
          · rw [if_pos (by omega)]
            refine Ev.step (f := fun _ => some _) (fun k => ?_) (Ev.now _)
            simp only [spec_PassHash.j0, in_is, Option.bind_some]; rw [if_neg (by decide), if_neg h3, if_neg h4, decide_eq_false h5, if_neg (by decide)]
theorem passA_impl (a0 a1 : ByteArray) (n : Int) : Ev (fun k => impl_PassHash.f k a0 a1 n) (passA a0 a1 n) := by
  unfold passA
  have j_long : Ev (fun k => impl_PassHash.j0 k a0 a1 n true) (⟨#[]⟩, 2) := Ev.step (f := fun _ => some _) (fun k => by simp only [impl_PassHash.j0]; rw [if_pos trivial]) (Ev.now _)
  by_cases h1 : (a0.size : Int) > 65536
  · rw [if_pos (.inl h1)]
    exact Ev.congr (fun k => by unfold impl_PassHash.f; rw [if_pos h1]) j_long
  · by_cases h2 : (a1.size : Int) > 65536
    · rw [if_pos (.inr h2)]
      exact Ev.congr (fun k => by unfold impl_PassHash.f; rw [if_neg h1, decide_eq_true h2]) j_long
    · rw [if_neg (by omega)]
      refine Ev.congr (fun k => by unfold impl_PassHash.f; rw [if_neg h1, decide_eq_false h2]) ?_
      by_cases h3 : (a0.size : Int) > 40
      · rw [if_pos (.inl h3)]
        exact Ev.step (f := fun _ => some _) (fun k => by simp only [impl_PassHash.j0]; rw [if_neg (by decide), if_pos h3]) (Ev.now _)
      · by_cases h4 : (a1.size : Int) > 40
        · rw [if_pos (.inr (.inl h4))]
          exact Ev.step (f := fun _ => some _) (fun k => by simp only [impl_PassHash.j0]; rw [if_neg (by decide), if_neg h3, if_pos h4]) (Ev.now _)
        · by_cases h5 : 0 ≤ n ∧ n ≤ 20
          · rw [if_neg (by omega)]
            obtain ⟨_, i1⟩ := pass_ev a0 a1 (by omega) (by omega) n.toNat (by omega)
            rw [show ((n.toNat : Nat) : Int) = n by omega] at i1
            refine Ev.step (f := fun k => (impl_passHash.f k a0 a1 n).bind fun t => some (t, 0)) (fun k => ?_) (Ev.bind i1 (Ev.now _))
            simp only [impl_PassHash.j0, within_is, Option.bind_some]; rw [if_neg (by decide), if_neg h3, if_neg h4, decide_eq_true h5, if_pos rfl]
          · rw [if_pos (by omega)]
            refine Ev.step (f := fun _ => some _) (fun k => ?_) (Ev.now _)
            simp only [impl_PassHash.j0, within_is, Option.bind_some]; rw [if_neg (by decide), if_neg h3, if_neg h4, decide_eq_false h5, if_neg (by decide)]
-- SAYS: PassHash: salt and word hashed, and hashed again with the salt, come to one hash, or to one refusal, for all arguments.
-- USES: Bytes Sha Pass
-- IMPORTS: Derived.Laws.BitsAllLaws Derived.Laws.BitsLemmas
theorem FnExactPassHash : laws_FnExactPassHash.Pure := by
  intro a0 a1 n _ _ _
  suffices h : Ev (fun k => laws_FnExactPassHash.f k a0 a1 n) true by
    obtain ⟨K, hK⟩ := h; exact ⟨K, hK K (Nat.le_refl _)⟩
  by_cases h1 : (a0.size : Int) > 1048576
  · exact Ev.congr (f := fun _ => some true) (fun k => by unfold laws_FnExactPassHash.f; rw [if_pos h1]) (Ev.now _)
  · by_cases h2 : (a1.size : Int) > 1048576
    · exact Ev.congr (f := fun _ => some true) (fun k => by unfold laws_FnExactPassHash.f; rw [if_neg h1, if_pos h2]) (Ev.now _)
    · refine Ev.congr (fun k => by unfold laws_FnExactPassHash.f; rw [if_neg h1, if_neg h2]) ?_
      refine Ev.bind (passA_spec a0 a1 n) ?_
      refine Ev.bind (passA_impl a0 a1 n) ?_
      exact Ev.congr (f := fun _ => some true) (fun k => by rw [if_pos rfl, if_pos rfl]) (Ev.now _)

end Go.Proofs.YtohlocmdpdghiaaDoor.Pure
