/- FnHashes: hashes and sums of words are those of the reference, told in digits and bits and read back; a word hashed once more is its hash hashed with the salt. -/
import Derived.Test.YtohlocmdpdghiaaDoorZHfPx8
import Derived.Test.YtohlocmdpdghiaaDoorZHfBase
import Derived.Laws.BitsAllLaws
import Derived.Laws.BitsLemmas
set_option linter.unusedSimpArgs false
set_option linter.unusedVariables false
namespace Go.Proofs.YtohlocmdpdghiaaDoor.Pure
open Go.RowKit Go.Proofs.YtohlocmdpdghiaaDoor.PHf Go.Proofs.YtohlocmdpdghiaaDoorW.PrintWords Go.Proofs.YtohlocmdpdghiaaDoorW.PrintLast Go.Proofs.YtohlocmdpdghiaaDoorW.PrintMore Base

/-! ### rows of bytes and the strings of them -/
def Bytes (l : List Int) : Prop := ∀ x ∈ l, 0 ≤ x ∧ x < 256
theorem bytes_wf {l : List Int} (h : ∀ x ∈ l, (Lit.int .u8 x).wf = true) : Bytes l := fun x hx => wf_u8 (h x hx)
theorem rd_nat (l : List Int) (i : Nat) : rd l (i : Int) = l.getD i 0 := by simp [rd]
theorem rd_at (l : List Int) (i : Nat) (h : i < l.length) : rd l (i : Int) = l[i] := by
  rw [rd_nat, List.getD_eq_getElem?_getD, List.getElem?_eq_getElem h]; rfl
theorem rd_byte {l : List Int} (h : Bytes l) (i : Nat) : 0 ≤ rd l (i : Int) ∧ rd l (i : Int) < 256 := by
  by_cases hi : i < l.length
  · rw [rd_at l i hi]; exact h _ (List.getElem_mem hi)
  · rw [rd_nat, List.getD_eq_getElem?_getD, List.getElem?_eq_none (by omega)]; simp
theorem str_bt {l : List Int} (h : Bytes l) (i : Nat) : bt (strOfNums l) (i : Int) = rd l (i : Int) := by
  rw [bt_nat, strOfNums_data, rd_nat, List.getD_eq_getElem?_getD, List.getD_eq_getElem?_getD, List.getElem?_map]
  by_cases hi : i < l.length
  · rw [List.getElem?_eq_getElem hi]
    simp only [Option.map_some, Option.getD_some]
    have := h _ (List.getElem_mem hi)
    rw [UInt8.toNat_ofNat']; omega
  · rw [List.getElem?_eq_none (by omega)]; rfl
theorem str_size (l : List Int) : (strOfNums l).size = l.length := strOfNums_size l

/-! ### the number of a row of bytes, high byte first -/
/-! ### the hash of bytes: the reference's rows come to the program's arrays -/
theorem or_comm32 (a b : Int) : Go.bits .or .u32 a b = Go.bits .or .u32 b a := by
  show IntKind.u32.wrap ((BitVec.ofInt 32 a ||| BitVec.ofInt 32 b).toNat : Int) = IntKind.u32.wrap ((BitVec.ofInt 32 b ||| BitVec.ofInt 32 a).toNat : Int)
  rw [BitVec.or_comm]
theorem turn_n (x : Int) (n : Nat) (h0 : 0 < n) (h1 : n < 32) : spec_l04Turn.f x (n : Int) = some (Sha.rgt x n) := by
  have hw : IntKind.u64.wrap (32 - (n : Int)) = ((32 - n : Nat) : Int) := by rw [wrap_u64]; omega
  unfold spec_l04Turn.f
  rw [if_pos (by omega), hw, if_pos (by omega), or_comm32]
  have e1 : shl .u32 x ((32 - n : Nat) : Int) = x * 2 ^ (32 - n) % 4294967296 := by
    show IntKind.u32.wrap (x * 2 ^ min (((32 - n : Nat) : Int)).toNat 32) = _
    rw [wrap_u32, Int.toNat_natCast, Nat.min_eq_left (by omega)]
  have e2 : shr .u32 x (n : Int) = x / 2 ^ n := by
    show x / 2 ^ min ((n : Int)).toNat 32 = _
    rw [Int.toNat_natCast, Nat.min_eq_left (by omega)]
  rw [e1, e2]
  rfl
theorem turn_2 (x : Int) : spec_l04Turn.f x 2 = some (Sha.rgt x 2) := turn_n x 2 (by decide) (by decide)
theorem turn_6 (x : Int) : spec_l04Turn.f x 6 = some (Sha.rgt x 6) := turn_n x 6 (by decide) (by decide)
theorem turn_7 (x : Int) : spec_l04Turn.f x 7 = some (Sha.rgt x 7) := turn_n x 7 (by decide) (by decide)
theorem turn_11 (x : Int) : spec_l04Turn.f x 11 = some (Sha.rgt x 11) := turn_n x 11 (by decide) (by decide)
theorem turn_13 (x : Int) : spec_l04Turn.f x 13 = some (Sha.rgt x 13) := turn_n x 13 (by decide) (by decide)
theorem turn_17 (x : Int) : spec_l04Turn.f x 17 = some (Sha.rgt x 17) := turn_n x 17 (by decide) (by decide)
theorem turn_18 (x : Int) : spec_l04Turn.f x 18 = some (Sha.rgt x 18) := turn_n x 18 (by decide) (by decide)
theorem turn_19 (x : Int) : spec_l04Turn.f x 19 = some (Sha.rgt x 19) := turn_n x 19 (by decide) (by decide)
theorem turn_22 (x : Int) : spec_l04Turn.f x 22 = some (Sha.rgt x 22) := turn_n x 22 (by decide) (by decide)
theorem turn_25 (x : Int) : spec_l04Turn.f x 25 = some (Sha.rgt x 25) := turn_n x 25 (by decide) (by decide)
theorem wr32 : ∀ n : Int, 0 ≤ n → n < 2 ^ 32 → IntKind.u32.wrap n = n := fun n h0 h1 => by rw [wrap_u32]; omega
theorem or_word (a b c d : Int) (ha : 0 ≤ a ∧ a < 256) (hb : 0 ≤ b ∧ b < 256) (hc : 0 ≤ c ∧ c < 256) (hd : 0 ≤ d ∧ d < 256) :
    Go.bits .or .u32 (Go.bits .or .u32 (Go.bits .or .u32 (((a % 4294967296) * 16777216) % 4294967296) (((b % 4294967296) * 65536) % 4294967296)) (((c % 4294967296) * 256) % 4294967296)) (d % 4294967296)
      = (((a * 256 + b) * 256 + c) * 256 + d) % 4294967296 := by
  have e1 : ((a % 4294967296) * 16777216) % 4294967296 = a * 16777216 := by omega
  have e2 : ((b % 4294967296) * 65536) % 4294967296 = b * 65536 := by omega
  have e3 : ((c % 4294967296) * 256) % 4294967296 = c * 256 := by omega
  have e4 : d % 4294967296 = d := by omega
  rw [e1, e2, e3, e4]
  rw [bits_join .u32 32 (by decide) wr32 24 (a * 16777216) (b * 65536) (by omega) (by omega) (by omega) (by omega) (by omega) (by omega)]
  rw [bits_join .u32 32 (by decide) wr32 16 (a * 16777216 + b * 65536) (c * 256) (by omega) (by omega) (by omega) (by omega) (by omega) (by omega)]
  rw [bits_join .u32 32 (by decide) wr32 8 (a * 16777216 + b * 65536 + c * 256) d (by omega) (by omega) (by omega) (by omega) (by omega) (by omega)]
  omega
theorem rd_byte' {l : List Int} (h : Bytes l) (i : Int) : 0 ≤ rd l i ∧ rd l i < 256 := Sha.bytes_rd h i
theorem block_l0 (hs l ks : List Int) (h64 : l.length = 64) (hl : Bytes l) (R : List Int) (hn : Ev (fun k => spec_l04Block.l1 k hs ks (Sha.wst l 16) 16) R) (d : Nat) :
    ∀ i : Nat, i + d = 16 → Ev (fun k => spec_l04Block.l0 k hs l ks (Sha.wst l i) (i : Int)) R := by
  induction d with
  | zero =>
    intro i hi
    obtain rfl : i = 16 := by omega
    refine Ev.step (fun k => ?_) hn
    simp only [spec_l04Block.l0]; rw [if_neg (by omega)]
  | succ d ih =>
    intro i hi
    have wl := Sha.wst_length l i
    have w0 : wrap64 (4 * (i : Int)) = 4 * i := wrap64_id (by omega) (by omega)
    have w1 : wrap64 (4 * (i : Int) + 1) = 4 * i + 1 := wrap64_id (by omega) (by omega)
    have w2 : wrap64 (4 * (i : Int) + 2) = 4 * i + 2 := wrap64_id (by omega) (by omega)
    have w3 : wrap64 (4 * (i : Int) + 3) = 4 * i + 3 := wrap64_id (by omega) (by omega)
    have w4 : wrap64 ((i : Int) + 1) = ((i + 1 : Nat) : Int) := by rw [wrap64_id (by omega) (by omega)]; omega
    refine Ev.step (fun k => ?_) (ih (i + 1) (by omega))
    have hnx : Sha.wst l (i + 1) = (Sha.wst l i).set i (Sha.word4 l i % 4294967296) := by
      show (Sha.wst l i).set i (Sha.wNext l (Sha.wst l i) i) = _
      unfold Sha.wNext
      rw [if_pos (by omega)]
    simp only [spec_l04Block.l0, w0, w1, w2, w3, w4]
    rw [if_pos (by omega), if_pos (by omega), if_pos (by omega), if_pos (by omega), if_pos (by omega), if_pos (by omega), if_pos (by omega), if_pos (by omega), if_pos (by omega), if_pos (by omega), if_pos (by omega),
      or_word _ _ _ _ (rd_byte' hl _) (rd_byte' hl _) (rd_byte' hl _) (rd_byte' hl _), hnx]
    rfl
theorem block_l1 (hs l ks : List Int) (R : List Int) (hhs : hs.length = 8) (hn : Ev (fun k => spec_l04Block.l2 k hs ks (Sha.wst l 64) hs 0) R) (d : Nat) :
    ∀ i : Nat, i + d = 64 → 16 ≤ i → Ev (fun k => spec_l04Block.l1 k hs ks (Sha.wst l i) (i : Int)) R := by
  induction d with
  | zero =>
    intro i hi _
    obtain rfl : i = 64 := by omega
    refine Ev.step (fun k => ?_) hn
    simp only [spec_l04Block.l1, Option.bind_some, List.nil_append, List.length_nil]; rw [if_neg (by omega), if_pos (by omega)]
  | succ d ih =>
    intro i hi h16
    have wl := Sha.wst_length l i
    have w0 : wrap64 ((i : Int) - 15) = i - 15 := wrap64_id (by omega) (by omega)
    have w1 : wrap64 ((i : Int) - 2) = i - 2 := wrap64_id (by omega) (by omega)
    have w2 : wrap64 ((i : Int) - 16) = i - 16 := wrap64_id (by omega) (by omega)
    have w3 : wrap64 ((i : Int) - 7) = i - 7 := wrap64_id (by omega) (by omega)
    have w4 : wrap64 ((i : Int) + 1) = ((i + 1 : Nat) : Int) := by rw [wrap64_id (by omega) (by omega)]; omega
    refine Ev.step (fun k => ?_) (ih (i + 1) (by omega) (by omega))
    obtain ⟨ws, hws⟩ : ∃ ws, ws = Sha.wst l i := ⟨_, rfl⟩
    have hnx : Sha.wst l (i + 1) = ws.set i (Sha.wNext l ws i) := by rw [hws]; rfl
    rw [hnx, ← hws]
    rw [← hws] at wl
    have hv : Sha.wNext l ws i = ((((rd ws ((i : Int) - 16) + Sha.sigA (rd ws ((i : Int) - 15))) % 4294967296 + rd ws ((i : Int) - 7)) % 4294967296) + Sha.sigB (rd ws ((i : Int) - 2))) % 4294967296 := by
      unfold Sha.wNext
      rw [if_neg (by omega)]
      generalize Sha.sigA _ = A
      generalize Sha.sigB _ = B
      omega
    rw [hv]
    unfold Sha.sigA Sha.sigB
    simp only [spec_l04Block.l1, w0, w1, w2, w3, w4, turn_7, turn_18, turn_17, turn_19, Option.bind_some]
    rw [if_pos (by omega), if_pos (by omega), if_pos (by omega), if_pos (by omega), if_pos (by omega), if_pos (by omega), if_pos (by omega), if_pos (by omega), if_pos (by omega), if_pos (by omega), if_pos (by omega)]
    rfl
theorem block_l3 (hs v : List Int) (hhs : hs.length = 8) (hv : v.length = 8) (d : Nat) : ∀ i : Nat, i + d = 8 → Ev (fun k => spec_l04Block.l3 k (Sha.addk hs v i) v (i : Int)) (Sha.addk hs v 8) := by
  induction d with
  | zero =>
    intro i hi
    obtain rfl : i = 8 := by omega
    refine Ev.step (f := fun _ => some _) (fun k => ?_) (Ev.now _)
    simp only [spec_l04Block.l3]; rw [if_neg (by omega)]
  | succ d ih =>
    intro i hi
    have al := Sha.addk_length hs v i
    have w4 : wrap64 ((i : Int) + 1) = ((i + 1 : Nat) : Int) := by rw [wrap64_id (by omega) (by omega)]; omega
    refine Ev.step (fun k => ?_) (ih (i + 1) (by omega))
    simp only [spec_l04Block.l3, w4]
    rw [if_pos (by omega), if_pos (by omega), if_pos (by omega), if_pos (by omega)]
    rfl
theorem umax : IntKind.u32.max = 4294967295 := rfl
theorem block_l2 (hs ws ks : List Int) (hhs : hs.length = 8) (hws : ws.length = 64) (hks : ks.length = 64) (d : Nat) :
    ∀ i : Nat, i + d = 64 → Ev (fun k => spec_l04Block.l2 k hs ks ws (Sha.rnds ks ws hs i) (i : Int)) (Sha.addk hs (Sha.rnds ks ws hs 64) 8) := by
  induction d with
  | zero =>
    intro i hi
    obtain rfl : i = 64 := by omega
    refine Ev.step (fun k => ?_) (block_l3 hs (Sha.rnds ks ws hs 64) hhs (Sha.rnds_length ks ws hs hhs 64) 8 0 (by omega))
    simp only [spec_l04Block.l2]; rw [if_neg (by omega)]; rfl
  | succ d ih =>
    intro i hi
    have vl := Sha.rnds_length ks ws hs hhs i
    have w4 : wrap64 ((i : Int) + 1) = ((i + 1 : Nat) : Int) := by rw [wrap64_id (by omega) (by omega)]; omega
    refine Ev.step (fun k => ?_) (ih (i + 1) (by omega))
    obtain ⟨v, hv⟩ : ∃ v, v = Sha.rnds ks ws hs i := ⟨_, rfl⟩
    have hnx : Sha.rnds ks ws hs (i + 1) = Sha.rnd ks ws v i := by rw [hv]; rfl
    rw [hnx, ← hv]
    rw [← hv] at vl
    unfold Sha.rnd Sha.rOne Sha.rTwo
    simp only [spec_l04Block.l2, w4, turn_6, turn_11, turn_25, turn_2, turn_13, turn_22, Option.bind_some, wrap_u32, umax]
    rw [if_pos (by omega), if_pos (by omega), if_pos (by omega), if_pos (by omega), if_pos (by omega), if_pos (by omega), if_pos (by omega), if_pos (by omega), if_pos (by omega), if_pos (by omega), if_pos (by omega), if_pos (by omega)]
theorem block_ev (hs l ks : List Int) (hhs : hs.length = 8) (h64 : l.length = 64) (hl : Bytes l) (hks : ks.length = 64) : Ev (fun k => spec_l04Block.f k hs l ks) (Sha.blockI ks hs l) := by
  have h2 := block_l2 hs (Sha.wst l 64) ks hhs (Sha.wst_length l 64) hks 64 0 (by omega)
  have h1 := block_l1 hs l ks _ hhs h2 48 16 (by omega) (by omega)
  have h0 := block_l0 hs l ks h64 hl _ h1 16 0 (by omega)
  refine Ev.congr (fun k => ?_) h0
  unfold spec_l04Block.f
  rw [if_pos (by decide)]
  rfl
theorem hash_l3 (h : List Int) (hh : h.length = 8) (d : Nat) : ∀ i : Nat, i + d = 8 → Ev (fun k => spec_l04Hash.l3 k h (Sha.outUpto h i) (i : Int)) (strOfNums (h.flatMap Sha.be4)) := by
  induction d with
  | zero =>
    intro i hi
    obtain rfl : i = 8 := by omega
    refine Ev.step (f := fun _ => some _) (fun k => ?_) (Ev.now _)
    simp only [spec_l04Hash.l3]; rw [if_neg (by omega)]
    unfold Sha.outUpto
    rw [List.take_of_length_le (by omega)]
  | succ d ih =>
    intro i hi
    have ol := Sha.outUpto_length h i (by omega)
    have w4 : wrap64 ((i : Int) + 1) = ((i + 1 : Nat) : Int) := by rw [wrap64_id (by omega) (by omega)]; omega
    have hb : ∀ x : Int, Sha.be4 x = [(x / 16777216) % 256, (x / 65536) % 256, (x / 256) % 256, x % 256] := fun x => by
      have e0 : shr .i64 x 0 = x := by show x / 2 ^ min (0 : Int).toNat 64 = _; simp
      have e1 : shr .i64 x 8 = x / 256 := by show x / 2 ^ min (8 : Int).toNat 64 = _; simp
      have e2 : shr .i64 x 16 = x / 65536 := by show x / 2 ^ min (16 : Int).toNat 64 = _; simp
      have e3 : shr .i64 x 24 = x / 16777216 := by show x / 2 ^ min (24 : Int).toNat 64 = _; simp
      unfold Sha.be4
      rw [e0, e1, e2, e3]
    refine Ev.step (fun k => ?_) (ih (i + 1) (by omega))
    rw [Sha.outUpto_succ h i (by omega), hb]
    simp only [spec_l04Hash.l3, w4, Option.bind_some, List.length_cons, List.length_nil]
    rw [if_pos (by omega), if_pos (by omega), if_pos (by omega), if_pos (by omega)]
theorem hash_l2 (all : List Int) (m : Nat) (hal : all.length = 64 * m) (hm : m ≤ 1000000) (hl : Bytes all) (hs : List Int) (hhs : hs.length = 8) (d : Nat) :
    ∀ q : Nat, q + d = m → Ev (fun k => spec_l04Hash.l2 k (Sha.hFold Sha.tab all hs (List.range q)) all Sha.tab ((64 * q : Nat) : Int)) (strOfNums ((Sha.hFold Sha.tab all hs (List.range m)).flatMap Sha.be4)) := by
  induction d with
  | zero =>
    intro q hq
    obtain rfl : q = m := by omega
    refine Ev.step (fun k => ?_) (hash_l3 _ (Sha.hFold_length _ hhs) 8 0 (by omega))
    simp only [spec_l04Hash.l2]; rw [if_neg (by omega)]; rfl
  | succ d ih =>
    intro q hq
    have w4 : wrap64 (((64 * q : Nat) : Int) + 64) = ((64 * (q + 1) : Nat) : Int) := by rw [wrap64_id (by omega) (by omega)]; omega
    have hcl := Sha.chunkAt_length hal (show q < m by omega)
    have hcb : Bytes (Sha.chunkAt all q) := Sha.chunk_by hl q
    have hih := ih (q + 1) (by omega)
    rw [List.range_succ] at hih
    have hf : Sha.hFold Sha.tab all hs (List.range q ++ [q]) = Sha.blockI Sha.tab (Sha.hFold Sha.tab all hs (List.range q)) (Sha.chunkAt all q) := by
      unfold Sha.hFold
      rw [List.foldl_append]
      rfl
    rw [hf] at hih
    refine Ev.step (f := fun k => (spec_l04Block.f k (Sha.hFold Sha.tab all hs (List.range q)) (Sha.chunkAt all q) Sha.tab).bind fun t => spec_l04Hash.l2 k t all Sha.tab ((64 * (q + 1) : Nat) : Int)) (fun k => ?_)
      (Ev.bind (block_ev _ _ _ (Sha.hFold_length _ hhs) hcl hcb rfl) hih)
    have e1 : (((64 * (q + 1) : Nat) : Int)).toNat = 64 * q + 64 := by omega
    have e2 : (((64 * q : Nat) : Int)).toNat = 64 * q := by omega
    simp only [spec_l04Hash.l2, w4, e1, e2]
    rw [if_pos (by omega), if_pos (by omega), if_pos (by omega), if_pos (by omega)]
    rfl
theorem hash_l1_step (l0 h x : List Int) (k i : Nat) (hi : i < 8) (hl : l0.length ≤ 1000000) (hx : x.length ≤ 2000000) :
    spec_l04Hash.l1 (k + 1) l0 h x (i : Int) = spec_l04Hash.l1 k l0 h (x ++ [shr .i64 (8 * (l0.length : Int)) ((8 * i : Nat) : Int) % 256]) ((i : Int) - 1) := by
  have w0 : wrap64 (8 * (l0.length : Int)) = 8 * (l0.length : Int) := wrap64_id (by omega) (by omega)
  have w1 : IntKind.u64.wrap (wrap64 (8 * (i : Int))) = ((8 * i : Nat) : Int) := by rw [wrap64_id (by omega) (by omega), wrap_u64]; omega
  have w2 : wrap64 ((i : Int) - 1) = (i : Int) - 1 := wrap64_id (by omega) (by omega)
  simp only [spec_l04Hash.l1, w0, w1, w2]
  rw [if_pos (by omega), if_pos (by omega), if_pos (by omega)]
theorem consts_ev : spec_l04Consts.f = some Sha.tab := rfl
theorem hash_l1 (l0 h x : List Int) (hl : l0.length ≤ 1000000) (hx : x.length ≤ 1900000) (R : ByteArray) (hn : Ev (fun k => spec_l04Hash.l2 k h (x ++ Sha.be8 (8 * (l0.length : Int))) Sha.tab 0) R) :
    Ev (fun k => spec_l04Hash.l1 k l0 h x 7) R := by
  have hend : Ev (fun k => spec_l04Hash.l1 k l0 h (x ++ Sha.be8 (8 * (l0.length : Int))) (-1)) R := by
    refine Ev.step (fun k => ?_) hn
    simp only [spec_l04Hash.l1, consts_ev, Option.bind_some]; rw [if_neg (by omega)]
  have st : ∀ (i : Nat) (y : List Int), i < 8 → y.length ≤ 2000000 → Ev (fun k => spec_l04Hash.l1 k l0 h (y ++ [shr .i64 (8 * (l0.length : Int)) ((8 * i : Nat) : Int) % 256]) ((i : Int) - 1)) R → Ev (fun k => spec_l04Hash.l1 k l0 h y (i : Int)) R :=
    fun i y hi hy he => Ev.step (fun k => hash_l1_step l0 h y k i hi hl hy) he
  refine st 7 _ (by omega) (by omega) ?_
  refine st 6 _ (by omega) (by simp; omega) ?_
  refine st 5 _ (by omega) (by simp; omega) ?_
  refine st 4 _ (by omega) (by simp; omega) ?_
  refine st 3 _ (by omega) (by simp; omega) ?_
  refine st 2 _ (by omega) (by simp; omega) ?_
  refine st 1 _ (by omega) (by simp; omega) ?_
  refine st 0 _ (by omega) (by simp; omega) ?_
  simp only [List.append_assoc, List.cons_append, List.nil_append]
  exact hend
theorem hash_l0 (l0 h : List Int) (hl : l0.length ≤ 1000000) (R : ByteArray) (hn : Ev (fun k => spec_l04Hash.l2 k h (Sha.shaAll l0) Sha.tab 0) R) (d : Nat) :
    ∀ j : Nat, j + d = Sha.padN l0.length → Ev (fun k => spec_l04Hash.l0 k l0 h (Sha.pad l0 j)) R := by
  induction d with
  | zero =>
    intro j hj
    have pl := Sha.pad_length l0 j
    refine Ev.step (fun k => ?_) (hash_l1 l0 h (Sha.pad l0 j) hl (by unfold Sha.padN at hj; omega) R (by
      have : Sha.pad l0 j ++ Sha.be8 (8 * (l0.length : Int)) = Sha.shaAll l0 := by
        unfold Sha.shaAll
        rw [show j = Sha.padN l0.length by omega]
      rw [this]; exact hn))
    simp only [spec_l04Hash.l0]; rw [if_pos (by rw [pl]; unfold Sha.padN at hj; omega)]
  | succ d ih =>
    intro j hj
    have pl := Sha.pad_length l0 j
    refine Ev.step (fun k => ?_) (ih (j + 1) (by omega))
    have e : Sha.pad l0 (j + 1) = Sha.pad l0 j ++ [0] := by simp [Sha.pad, List.replicate_succ']
    rw [e]
    simp only [spec_l04Hash.l0]; rw [if_neg (by rw [pl]; unfold Sha.padN at hj; omega), if_pos (by unfold Sha.padN at hj; omega)]
theorem hash_ev (l0 : List Int) (hl : l0.length ≤ 1000000) (hb : Bytes l0) : Ev (fun k => spec_l04Hash.f k l0) (Sha.shaS Sha.tab l0) := by
  have hal := Sha.shaAll_length l0
  have h2 := hash_l2 (Sha.shaAll l0) (Sha.shaM l0.length) hal (by unfold Sha.shaM Sha.padN; omega) (Sha.shaAll_by hb) Sha.H0 rfl (Sha.shaM l0.length) 0 (by omega)
  have h0 := hash_l0 l0 Sha.H0 hl _ h2 (Sha.padN l0.length) 0 (by omega)
  refine Ev.congr (fun k => ?_) h0
  unfold spec_l04Hash.f
  simp only [Option.bind_some, List.nil_append, List.length_nil]
  rw [if_pos (by omega), if_pos (by omega)]
  unfold Sha.pad Sha.H0
  rw [List.replicate_zero, List.append_nil]
theorem sha_is (l0 : List Int) (hl : l0.length ≤ 1000000) (hb : Bytes l0) : impl_sha.f l0 = some (Sha.shaS Sha.tab l0) := by
  unfold impl_sha.f
  rw [if_pos hl, if_pos (show ∀ x ∈ l0, 0 ≤ x ∧ x < 256 from hb)]

/-! ### the hash of salt and word, hashed again -/
theorem bytesOf_Bytes (s : ByteArray) : Bytes (bytesOf s) := by
  intro x hx
  unfold bytesOf at hx
  obtain ⟨b, _, rfl⟩ := List.mem_map.1 hx
  have := b.toNat_lt
  omega
theorem bytesOf_size (x : ByteArray) : (bytesOf x).length = x.size := bytesOf_length x
theorem shaS_size (l : List Int) : (Sha.shaS Sha.tab l).size = 32 := by
  unfold Sha.shaS
  have h := Sha.outUpto_length (Sha.shaH Sha.tab l) 8 (by rw [Sha.shaH_length]; omega)
  unfold Sha.outUpto at h
  rw [List.take_of_length_le (by rw [Sha.shaH_length]; omega)] at h
  rw [str_size, h]
def hashS (s : ByteArray) : ByteArray := Sha.shaS Sha.tab (bytesOf s)
theorem hashS_size (s : ByteArray) : (hashS s).size = 32 := shaS_size _
theorem hashS_spec (s : ByteArray) (h : s.size ≤ 1000000) : Ev (fun k => spec_l04Hash.f k (bytesOf s)) (hashS s) := hash_ev _ (by rw [bytesOf_size]; exact h) (bytesOf_Bytes s)
theorem hashS_impl (s : ByteArray) (h : s.size ≤ 1000000) : impl_sha.f (bytesOf s) = some (hashS s) := sha_is _ (by rw [bytesOf_size]; exact h) (bytesOf_Bytes s)
def passIt (x0 : ByteArray) : Nat → ByteArray → ByteArray
  | 0, h => h
  | n + 1, h => passIt x0 n (hashS (x0 ++ h))
def pass0 (a0 a1 : ByteArray) : ByteArray := hashS ((a0 ++ (⟨#[0]⟩ : ByteArray)) ++ a1)
theorem app_size (x y : ByteArray) : (x ++ y).size = x.size + y.size := ByteArray.size_append
theorem pass_l0 (x0 : ByteArray) (h0 : x0.size ≤ 100) (R : Nat) (hR : R ≤ 1000) (d : Nat) : ∀ (i : Nat) (h : ByteArray), h.size ≤ 100 → i + d = R →
    Ev (fun k => spec_l04Pass.l0 k x0 (R : Int) h (i : Int)) (passIt x0 d h) ∧ Ev (fun k => impl_passHash.l0 k x0 h (R : Int) (i : Int)) (passIt x0 d h) := by
  induction d with
  | zero =>
    intro i h hh hi
    refine ⟨Ev.step (f := fun _ => some h) (fun k => ?_) (Ev.now _), Ev.step (f := fun _ => some h) (fun k => ?_) (Ev.now _)⟩
    · simp only [spec_l04Pass.l0]; rw [if_neg (by omega)]
    · simp only [impl_passHash.l0]; rw [if_neg (by omega)]
  | succ d ih =>
    intro i h hh hi
    have w4 : wrap64 ((i : Int) + 1) = ((i + 1 : Nat) : Int) := by rw [wrap64_id (by omega) (by omega)]; omega
    have hs := app_size x0 h
    obtain ⟨i1, i2⟩ := ih (i + 1) (hashS (x0 ++ h)) (by rw [hashS_size]; omega) (by omega)
    refine ⟨Ev.step (f := fun k => (spec_l04Hash.f k (bytesOf (x0 ++ h))).bind fun t => spec_l04Pass.l0 k x0 (R : Int) t ((i + 1 : Nat) : Int)) (fun k => ?_) (Ev.bind (hashS_spec _ (by omega)) i1), Ev.step (fun k => ?_) i2⟩
    · simp only [spec_l04Pass.l0, w4]; rw [if_pos (by omega), if_pos (by omega), if_pos (by omega)]
    · simp only [impl_passHash.l0, w4]; rw [if_pos (by omega), if_pos (by omega), if_pos (by omega), hashS_impl _ (by omega), Option.bind_some]
theorem one_size : (⟨#[0]⟩ : ByteArray).size = 1 := rfl
theorem pass_ev (a0 a1 : ByteArray) (h0 : a0.size ≤ 40) (h1 : a1.size ≤ 40) (R : Nat) (hR : R ≤ 1000) :
    Ev (fun k => spec_l04Pass.f k a0 a1 (R : Int)) (passIt a0 R (pass0 a0 a1)) ∧ Ev (fun k => impl_passHash.f k a0 a1 (R : Int)) (passIt a0 R (pass0 a0 a1)) := by
  have e1 := app_size a0 (⟨#[0]⟩ : ByteArray)
  have e2 := app_size (a0 ++ (⟨#[0]⟩ : ByteArray)) a1
  have e3 := one_size
  obtain ⟨i1, i2⟩ := pass_l0 a0 (by omega) R hR R 0 (pass0 a0 a1) (by unfold pass0; rw [hashS_size]; omega) (by omega)
  refine ⟨Ev.congr (fun k => by unfold spec_l04Pass.f; rw [if_pos (by omega), if_pos (by omega), if_pos (by omega)]) (Ev.bind (hashS_spec _ (by omega)) i1), Ev.congr (fun k => ?_) i2⟩
  unfold impl_passHash.f
  rw [if_pos (by omega), if_pos (by omega), if_pos (by omega), hashS_impl _ (by omega), Option.bind_some]
  rfl
/-- What both answer. -/
def passA (a0 a1 : ByteArray) (n : Int) : ByteArray × Int :=
  if (a0.size : Int) > 65536 ∨ (a1.size : Int) > 65536 then (⟨#[]⟩, 2) else
  if (a0.size : Int) > 40 ∨ (a1.size : Int) > 40 ∨ n < 0 ∨ 20 < n then (⟨#[]⟩, 4) else (passIt a0 n.toNat (pass0 a0 a1), 0)
theorem in_is (n : Int) : spec_l04In.f n 0 20 = some (decide (0 ≤ n ∧ n ≤ 20)) := by
  unfold spec_l04In.f
  by_cases h : n ≥ 0
  · rw [if_pos h]; congr 1; simp [h]
  · rw [if_neg h]; congr 1; simp; omega
theorem within_is (n : Int) : impl_within.f n 0 20 = some (decide (0 ≤ n ∧ n ≤ 20)) := by
  unfold impl_within.f
  by_cases h : n ≥ 0
  · rw [if_pos h]; congr 1; simp [h]
  · rw [if_neg h]; congr 1; simp; omega
theorem passA_spec (a0 a1 : ByteArray) (n : Int) : Ev (fun k => spec_PassHash.f k a0 a1 n) (passA a0 a1 n) := by
  unfold passA
  have j_long : Ev (fun k => spec_PassHash.j0 k a0 a1 n true) (⟨#[]⟩, 2) := Ev.step (f := fun _ => some _) (fun k => by simp only [spec_PassHash.j0]; rw [if_pos trivial]) (Ev.now _)
  by_cases h1 : (a0.size : Int) > 65536
  · rw [if_pos (.inl h1)]
    exact Ev.congr (fun k => by unfold spec_PassHash.f; rw [if_pos h1]) j_long
  · by_cases h2 : (a1.size : Int) > 65536
    · rw [if_pos (.inr h2)]
      exact Ev.congr (fun k => by unfold spec_PassHash.f; rw [if_neg h1, decide_eq_true h2]) j_long
    · rw [if_neg (by omega)]
      refine Ev.congr (fun k => by unfold spec_PassHash.f; rw [if_neg h1, decide_eq_false h2]) ?_
      by_cases h3 : (a0.size : Int) > 40
      · rw [if_pos (.inl h3)]
        exact Ev.step (f := fun _ => some _) (fun k => by simp only [spec_PassHash.j0]; rw [if_neg (by decide), if_pos h3]) (Ev.now _)
      · by_cases h4 : (a1.size : Int) > 40
        · rw [if_pos (.inr (.inl h4))]
          exact Ev.step (f := fun _ => some _) (fun k => by simp only [spec_PassHash.j0]; rw [if_neg (by decide), if_neg h3, if_pos h4]) (Ev.now _)
        · by_cases h5 : 0 ≤ n ∧ n ≤ 20
          · rw [if_neg (by omega)]
            obtain ⟨i1, _⟩ := pass_ev a0 a1 (by omega) (by omega) n.toNat (by omega)
            rw [show ((n.toNat : Nat) : Int) = n by omega] at i1
            refine Ev.step (f := fun k => (spec_l04Pass.f k a0 a1 n).bind fun t => some (t, 0)) (fun k => ?_) (Ev.bind i1 (Ev.now _))
            simp only [spec_PassHash.j0, in_is, Option.bind_some]; rw [if_neg (by decide), if_neg h3, if_neg h4, decide_eq_true h5, if_pos rfl]
          · rw [if_pos (by omega)]
            refine Ev.step (f := fun _ => some _) (fun k => ?_) (Ev.now _)
            simp only [spec_PassHash.j0, in_is, Option.bind_some]; rw [if_neg (by decide), if_neg h3, if_neg h4, decide_eq_false h5, if_neg (by decide)]
theorem passA_impl (a0 a1 : ByteArray) (n : Int) : Ev (fun k => impl_PassHash.f k a0 a1 n) (passA a0 a1 n) := by
  unfold passA
  have j_long : Ev (fun k => impl_PassHash.j0 k a0 a1 n true) (⟨#[]⟩, 2) := Ev.step (f := fun _ => some _) (fun k => by simp only [impl_PassHash.j0]; rw [if_pos trivial]) (Ev.now _)
  by_cases h1 : (a0.size : Int) > 65536
  · rw [if_pos (.inl h1)]
    exact Ev.congr (fun k => by unfold impl_PassHash.f; rw [if_pos h1]) j_long
  · by_cases h2 : (a1.size : Int) > 65536
    · rw [if_pos (.inr h2)]
      exact Ev.congr (fun k => by unfold impl_PassHash.f; rw [if_neg h1, decide_eq_true h2]) j_long
    · rw [if_neg (by omega)]
      refine Ev.congr (fun k => by unfold impl_PassHash.f; rw [if_neg h1, decide_eq_false h2]) ?_
      by_cases h3 : (a0.size : Int) > 40
      · rw [if_pos (.inl h3)]
        exact Ev.step (f := fun _ => some _) (fun k => by simp only [impl_PassHash.j0]; rw [if_neg (by decide), if_pos h3]) (Ev.now _)
      · by_cases h4 : (a1.size : Int) > 40
        · rw [if_pos (.inr (.inl h4))]
          exact Ev.step (f := fun _ => some _) (fun k => by simp only [impl_PassHash.j0]; rw [if_neg (by decide), if_neg h3, if_pos h4]) (Ev.now _)
        · by_cases h5 : 0 ≤ n ∧ n ≤ 20
          · rw [if_neg (by omega)]
            obtain ⟨_, i1⟩ := pass_ev a0 a1 (by omega) (by omega) n.toNat (by omega)
            rw [show ((n.toNat : Nat) : Int) = n by omega] at i1
            refine Ev.step (f := fun k => (impl_passHash.f k a0 a1 n).bind fun t => some (t, 0)) (fun k => ?_) (Ev.bind i1 (Ev.now _))
            simp only [impl_PassHash.j0, within_is, Option.bind_some]; rw [if_neg (by decide), if_neg h3, if_neg h4, decide_eq_true h5, if_pos rfl]
          · rw [if_pos (by omega)]
            refine Ev.step (f := fun _ => some _) (fun k => ?_) (Ev.now _)
            simp only [impl_PassHash.j0, within_is, Option.bind_some]; rw [if_neg (by decide), if_neg h3, if_neg h4, decide_eq_false h5, if_neg (by decide)]
/-! ### two digits a byte -/
abbrev digs : ByteArray := ⟨#[48, 49, 50, 51, 52, 53, 54, 55, 56, 57, 97, 98, 99, 100, 101, 102]⟩
def nib (c : Int) : Int := Lib.indexByte digs.data.toList c.toNat.toUInt8
def nibS (c : Int) : Int := if 48 ≤ c ∧ c ≤ 57 then c - 48 else if 97 ≤ c ∧ c ≤ 102 then c - 87 else -1
theorem nib_all : ∀ n : Fin 256, nib ((n.val : Nat) : Int) = nibS ((n.val : Nat) : Int) := by decide +kernel
theorem nib_eq (c : Int) (h0 : 0 ≤ c) (h1 : c ≤ 255) : nib c = nibS c := by
  have := nib_all ⟨c.toNat, by omega⟩
  simpa [Int.toNat_of_nonneg h0] using this
theorem nibS_range (c : Int) : -1 ≤ nibS c ∧ nibS c ≤ 15 := by
  unfold nibS; (repeat' split) <;> omega
theorem dig_all : ∀ n : Fin 16, nibS (bt digs ((n.val : Nat) : Int)) = ((n.val : Nat) : Int) ∧ bt digs ((n.val : Nat) : Int) ≠ 58 := by decide +kernel
theorem dig_at (d : Int) (h0 : 0 ≤ d) (h1 : d < 16) : nibS (bt digs d) = d ∧ bt digs d ≠ 58 := by
  have := dig_all ⟨d.toNat, by omega⟩
  simpa [Int.toNat_of_nonneg h0] using this
def hexF (s : ByteArray) : Nat → Nat → Option (List Int)
  | 0, _ => some []
  | m + 1, j => if nibS (bt s ((2 * j : Nat) : Int)) < 0 then none else if nibS (bt s ((2 * j + 1 : Nat) : Int)) < 0 then none else (hexF s m (j + 1)).map fun l => (16 * nibS (bt s ((2 * j : Nat) : Int)) + nibS (bt s ((2 * j + 1 : Nat) : Int))) :: l
def outI (s : ByteArray) : Option (List Int) → ByteArray × Bool
  | none => (⟨#[]⟩, false)
  | some a => (strOfNums a, ((s.size : Int) % 2) == 0)
theorem two_byte (a b : Int) (h0 : 0 ≤ a) (h1 : a ≤ 15) (h2 : 0 ≤ b) (h3 : b ≤ 15) : (wrap64 (wrap64 (16 * a) + b)) % 256 = 16 * a + b := by
  rw [wrap64_id (x := 16 * a) (by omega) (by omega), wrap64_id (by omega) (by omega)]; omega
theorem hex_l0 (s : ByteArray) (hs : s.size ≤ 1048576) (d : Nat) : ∀ (j : Nat) (acc : List Int), j + d = s.size / 2 → acc.length = j → Ev (fun k => impl_readHex.l0 k s acc ((2 * j : Nat) : Int)) (outI s ((hexF s d j).map (acc ++ ·))) := by
  induction d with
  | zero =>
    intro j acc hj ha
    have w1 : wrap64 (((2 * j : Nat) : Int) + 1) = ((2 * j + 1 : Nat) : Int) := by rw [wrap64_id (by omega) (by omega)]; omega
    refine Ev.step (fun k => ?_) (Ev.now _)
    simp only [impl_readHex.l0, w1, hexF, Option.map_some, List.append_nil]; rw [if_neg (by omega)]; rfl
  | succ d ih =>
    intro j acc hj ha
    have w1 : wrap64 (((2 * j : Nat) : Int) + 1) = ((2 * j + 1 : Nat) : Int) := by rw [wrap64_id (by omega) (by omega)]; omega
    have w2 : wrap64 (((2 * j : Nat) : Int) + 2) = ((2 * (j + 1) : Nat) : Int) := by rw [wrap64_id (by omega) (by omega)]; omega
    have a0 := bt_0 s ((2 * j : Nat) : Int)
    have a1 := bt_255 s ((2 * j : Nat) : Int)
    have b0 := bt_0 s ((2 * j + 1 : Nat) : Int)
    have b1 := bt_255 s ((2 * j + 1 : Nat) : Int)
    have e1 := nib_eq _ a0 a1
    have e2 := nib_eq _ b0 b1
    have r1 := nibS_range (bt s ((2 * j : Nat) : Int))
    have r2 := nibS_range (bt s ((2 * j + 1 : Nat) : Int))
    have p1 : ((2 * j + 1 : Nat) : Int) < (s.size : Int) := by omega
    have p2 : (0 : Int) ≤ ((2 * j : Nat) : Int) := by omega
    have p3 : ((2 * j : Nat) : Int) < (s.size : Int) := by omega
    have p4 : (0 : Int) ≤ ((2 * j + 1 : Nat) : Int) := by omega
    have eI : ∀ r, Ev (fun k => if nib (bt s ((2 * j : Nat) : Int)) < 0 then some ((⟨#[]⟩ : ByteArray), false) else (if nib (bt s ((2 * j + 1 : Nat) : Int)) < 0 then some ((⟨#[]⟩ : ByteArray), false) else impl_readHex.l0 k s (acc ++ [(wrap64 ((wrap64 (16 * nib (bt s ((2 * j : Nat) : Int)))) + nib (bt s ((2 * j + 1 : Nat) : Int)))) % 256]) ((2 * (j + 1) : Nat) : Int))) r → Ev (fun k => impl_readHex.l0 k s acc ((2 * j : Nat) : Int)) r := fun r h => Ev.step (fun k => by
      simp only [impl_readHex.l0, w1, w2, strings_IndexByte.f]
      rw [if_pos p1, if_pos p2, if_pos p3]
      simp only [Option.bind_some]
      rw [if_pos p4]
      have : acc.length < 140737488355328 := by omega
      simp only [this, if_true]; rfl) h
    rw [e1, e2] at eI
    unfold hexF
    by_cases n1 : nibS (bt s ((2 * j : Nat) : Int)) < 0
    · rw [if_pos n1]
      exact eI _ (Ev.congr (fun k => by rw [if_pos n1]; rfl) (Ev.now _))
    · rw [if_neg n1]
      by_cases n2 : nibS (bt s ((2 * j + 1 : Nat) : Int)) < 0
      · rw [if_pos n2]
        exact eI _ (Ev.congr (fun k => by rw [if_neg n1, if_pos n2]; rfl) (Ev.now _))
      · rw [if_neg n2]
        rw [two_byte _ _ (by omega) (by omega) (by omega) (by omega)] at eI
        have h := ih (j + 1) (acc ++ [16 * nibS (bt s ((2 * j : Nat) : Int)) + nibS (bt s ((2 * j + 1 : Nat) : Int))]) (by omega) (by simp [ha])
        have e : ((hexF s d (j + 1)).map fun l => (16 * nibS (bt s ((2 * j : Nat) : Int)) + nibS (bt s ((2 * j + 1 : Nat) : Int))) :: l).map (acc ++ ·) = (hexF s d (j + 1)).map ((acc ++ [16 * nibS (bt s ((2 * j : Nat) : Int)) + nibS (bt s ((2 * j + 1 : Nat) : Int))]) ++ ·) := by
          rw [Option.map_map]; congr 1; funext l; simp
        rw [e]
        exact eI _ (Ev.congr (fun k => by rw [if_neg n1, if_neg n2]) h)
theorem hex_ev (s : ByteArray) (hs : s.size ≤ 1048576) : Ev (fun k => impl_readHex.f k s) (outI s (hexF s (s.size / 2) 0)) := by
  have h := hex_l0 s hs (s.size / 2) 0 [] (by omega) rfl
  have e : (hexF s (s.size / 2) 0).map (([] : List Int) ++ ·) = hexF s (s.size / 2) 0 := by cases hexF s (s.size / 2) 0 <;> simp
  rw [e] at h
  exact Ev.congr (fun k => by unfold impl_readHex.f; rfl) h
theorem hexF_ok (s : ByteArray) (L : List Int) (hB : Bytes L) : ∀ j : Nat, (∀ (k : Nat) (hk : k < L.length), bt s ((2 * (j + k) : Nat) : Int) = bt digs (L[k] / 16) ∧ bt s ((2 * (j + k) + 1 : Nat) : Int) = bt digs (L[k] % 16)) → hexF s L.length j = some L := by
  induction L with
  | nil => intro j _; rfl
  | cons x xs ih =>
    intro j h
    have hx := hB x (by simp)
    have h0 := h 0 (by simp)
    simp only [Nat.add_zero, List.getElem_cons_zero] at h0
    have d1 := (dig_at (x / 16) (by omega) (by omega)).1
    have d2 := (dig_at (x % 16) (by omega) (by omega)).1
    simp only [List.length_cons, hexF, h0.1, h0.2, d1, d2]
    rw [if_neg (by omega), if_neg (by omega), ih (fun y hy => hB y (by simp [hy])) (j + 1) (fun k hk => by
      have := h (k + 1) (by simp; omega)
      rw [show j + 1 + k = j + (k + 1) by omega]
      simpa using this)]
    simp only [Option.map_some]
    congr 2; omega
/-! ### the sum over bytes in words of 32 bits -/
theorem ofInt_i64 (a : Nat) (ha : a < 4294967296) : (BitVec.ofInt 64 (a : Int)).toNat = a := by
  rw [BitVec.ofInt_natCast, BitVec.toNat_ofNat]; exact Nat.mod_eq_of_lt (by omega)
theorem xor_i64 (a b : Nat) (ha : a < 4294967296) (hb : b < 4294967296) : Go.bits .xor .i64 (a : Int) (b : Int) = ((a ^^^ b : Nat) : Int) := by
  have h : a ^^^ b < 2 ^ 32 := Nat.xor_lt_two_pow (n := 32) (by omega) (by omega)
  show IntKind.i64.wrap ((BitVec.ofInt 64 (a : Int) ^^^ BitVec.ofInt 64 (b : Int)).toNat : Int) = _
  rw [BitVec.toNat_xor, ofInt_i64 a ha, ofInt_i64 b hb, IntKind.wrap_i64]
  omega
theorem xor_u32 (a b : Nat) (ha : a < 4294967296) (hb : b < 4294967296) : Go.bits .xor .u32 (a : Int) (b : Int) = ((a ^^^ b : Nat) : Int) := u32_xor_nat a b ha hb
theorem xor_lt (a b : Nat) (ha : a < 4294967296) (hb : b < 4294967296) : a ^^^ b < 4294967296 := Nat.xor_lt_two_pow (n := 32) (by omega) (by omega)

theorem check32_l1 (l : List Int) (i : Int) (hnext : ∀ c : Nat, c < 4294967296 → ∃ r, Ev (fun k => spec_l04Check.l0 k l (c : Int) (wrap64 (i + 1))) r ∧ Ev (fun k => impl_Check32.l0 k (c : Int) l (l.length : Int) (wrap64 (i + 1))) r) (d : Nat) :
    ∀ (j c : Nat), j + d = 8 → c < 4294967296 → ∃ r, Ev (fun k => spec_l04Check.l1 k l (c : Int) i (j : Int)) r ∧ Ev (fun k => impl_Check32.l1 k (c : Int) l (l.length : Int) i (j : Int)) r := by
  induction d with
  | zero =>
    intro j c hj hc
    obtain ⟨r, h1, h2⟩ := hnext c hc
    refine ⟨r, Ev.step (fun k => ?_) h1, Ev.step (fun k => ?_) h2⟩
    · simp only [spec_l04Check.l1]; rw [if_neg (by omega)]
    · simp only [impl_Check32.l1]; rw [if_neg (by omega)]
  | succ d ih =>
    intro j c hj hc
    have hw : wrap64 ((j : Int) + 1) = ((j + 1 : Nat) : Int) := by rw [wrap64_id (by omega) (by omega)]; omega
    have hand : Go.bits .and .u32 (c : Int) 1 = ((c % 2 : Nat) : Int) := by
      have := u32_and_nat c 1 hc (by omega)
      rw [Nat.and_one_is_mod] at this; exact this
    have hdv : (c : Int) / 2 = ((c / 2 : Nat) : Int) := by omega
    have hwd : wrap64 (Int.tdiv (c : Int) 2) = ((c / 2 : Nat) : Int) := by
      rw [Int.tdiv_eq_ediv_of_nonneg (by omega), wrap64_id (by omega) (by omega)]; omega
    have htm : Int.tmod (c : Int) 2 = ((c % 2 : Nat) : Int) := by rw [Int.tmod_eq_emod_of_nonneg (by omega)]; omega
    by_cases hodd : c % 2 = 1
    · obtain ⟨r, h1, h2⟩ := ih (j + 1) (c / 2 ^^^ 3988292384) (by omega) (xor_lt _ _ (by omega) (by omega))
      refine ⟨r, Ev.step (fun k => ?_) h1, Ev.step (fun k => ?_) h2⟩
      · simp only [spec_l04Check.l1, htm, hwd, hw]
        rw [if_pos (by omega), if_pos (by omega)]
        rw [show (3988292384 : Int) = ((3988292384 : Nat) : Int) from rfl, xor_i64 _ _ (by omega) (by omega)]
      · simp only [impl_Check32.l1, hand, hw, hdv, hodd]
        rw [if_pos (by omega)]
        rw [show (3988292384 * ((1 : Nat) : Int)) % 4294967296 = ((3988292384 : Nat) : Int) from rfl, xor_u32 _ _ (by omega) (by omega)]
    · have h0 : c % 2 = 0 := by omega
      obtain ⟨r, h1, h2⟩ := ih (j + 1) (c / 2) (by omega) (by omega)
      refine ⟨r, Ev.step (fun k => ?_) h1, Ev.step (fun k => ?_) h2⟩
      · simp only [spec_l04Check.l1, htm, hwd, hw]
        rw [if_pos (by omega), if_neg (by omega)]
      · simp only [impl_Check32.l1, hand, hw, hdv, h0]
        rw [if_pos (by omega)]
        rw [show (3988292384 * ((0 : Nat) : Int)) % 4294967296 = ((0 : Nat) : Int) from rfl, xor_u32 _ _ (by omega) (by omega), Nat.xor_zero]

theorem check32_l0 (l : List Int) (hl : l.length ≤ 65536) (hb : ∀ x ∈ l, (Lit.int .u8 x).wf = true) (d : Nat) :
    ∀ (i c : Nat), i + d = l.length → c < 4294967296 → ∃ r, Ev (fun k => spec_l04Check.l0 k l (c : Int) (i : Int)) r ∧ Ev (fun k => impl_Check32.l0 k (c : Int) l (l.length : Int) (i : Int)) r := by
  induction d with
  | zero =>
    intro i c hi hc
    refine ⟨((c ^^^ 4294967295 : Nat) : Int), Ev.step (f := fun _ => some ((c ^^^ 4294967295 : Nat) : Int)) (fun k => ?_) (Ev.now _), Ev.step (f := fun _ => some ((c ^^^ 4294967295 : Nat) : Int)) (fun k => ?_) (Ev.now _)⟩
    · simp only [spec_l04Check.l0]; rw [if_neg (by omega)]
      rw [show (4294967295 : Int) = ((4294967295 : Nat) : Int) from rfl, xor_i64 _ _ hc (by omega)]
    · simp only [impl_Check32.l0]; rw [if_neg (by omega)]
      rw [show (4294967295 : Int) = ((4294967295 : Nat) : Int) from rfl, xor_u32 _ _ (by omega) hc, Nat.xor_comm]
      have := xor_lt c 4294967295 hc (by omega)
      rw [wrap64_id (by omega) (by omega)]
  | succ d ih =>
    intro i c hi hc
    have hw : wrap64 ((i : Int) + 1) = ((i + 1 : Nat) : Int) := by rw [wrap64_id (by omega) (by omega)]; omega
    have hx := wf_u8 (hb _ (List.getElem_mem (show i < l.length by omega)))
    have hr : rd l (i : Int) = ((l[i].toNat : Nat) : Int) := by
      rw [rd_nat, List.getD_eq_getElem?_getD, List.getElem?_eq_getElem (by omega)]
      simp only [Option.getD_some]; omega
    have hn : l[i].toNat < 256 := by omega
    obtain ⟨r, h1, h2⟩ := check32_l1 l (i : Int) (fun c hc => by rw [hw]; exact ih (i + 1) c (by omega) hc) 8 0 (c ^^^ l[i].toNat) (by omega) (xor_lt _ _ hc (by omega))
    refine ⟨r, Ev.step (fun k => ?_) h1, Ev.step (fun k => ?_) h2⟩
    · simp only [spec_l04Check.l0, hr]
      rw [if_pos (by omega), if_pos (by omega), wrap64_id (by omega) (by omega), xor_i64 _ _ hc (by omega)]; rfl
    · simp only [impl_Check32.l0, hr]
      rw [if_pos (by omega), if_pos (by omega), if_pos (by omega), show ((l[i].toNat : Nat) : Int) % 4294967296 = ((l[i].toNat : Nat) : Int) by omega, xor_u32 _ _ hc (by omega)]; rfl

/-! ### the bits of a hash -/
theorem sp_l1 (s : ByteArray) (hs : s.size = 32) (i : Nat) (hi : i < 32) (r : ByteArray) (h : Ev (fun k => spec_l04Bits.l0 k s (bitsUpto s (8 * (i + 1))) ((i + 1 : Nat) : Int)) r) : ∀ q : Nat, q ≤ 8 → Ev (fun k => spec_l04Bits.l1 k s (bitsUpto s (8 * i + (8 - q))) (i : Int) ((q : Int) - 1)) r := by
  intro q
  induction q with
  | zero =>
    intro _
    have hw : wrap64 ((i : Int) + 1) = ((i + 1 : Nat) : Int) := by rw [wrap64_id (by omega) (by omega)]; omega
    rw [show 8 * i + (8 - 0) = 8 * (i + 1) by omega]
    refine Ev.step (fun k => ?_) h
    simp only [spec_l04Bits.l1, hw]; rw [if_neg (by omega)]
  | succ q ih =>
    intro hq
    have h2 := ih (by omega)
    rw [show 8 * i + (8 - q) = 8 * i + (7 - q) + 1 by omega, bitsUpto_succ s i q (by omega)] at h2
    rw [show 8 * i + (8 - (q + 1)) = 8 * i + (7 - q) by omega, show ((q + 1 : Nat) : Int) - 1 = (q : Int) by omega]
    have hw : wrap64 ((q : Int) - 1) = (q : Int) - 1 := wrap64_id (by omega) (by omega)
    have hu : IntKind.u64.wrap (q : Int) = (q : Int) := by rw [wrap_u64]; omega
    have hl : (bitsUpto s (8 * i + (7 - q))).length < 140737488355328 := by unfold bitsUpto; rw [List.length_map, List.length_range]; omega
    refine Ev.step (fun k => ?_) h2
    simp only [spec_l04Bits.l1, hw, hu]
    rw [if_pos (by omega), if_pos (by omega), if_pos (by omega), if_pos (by omega), if_pos hl]; rfl
theorem sp_l0 (s : ByteArray) (hs : s.size = 32) (d : Nat) : ∀ i : Nat, i + d = 32 → Ev (fun k => spec_l04Bits.l0 k s (bitsUpto s (8 * i)) (i : Int)) (strOfNums (bitsUpto s 256)) := by
  induction d with
  | zero =>
    intro i hi
    obtain rfl : i = 32 := by omega
    refine Ev.step (f := fun _ => some _) (fun k => ?_) (Ev.now _)
    simp only [spec_l04Bits.l0]; rw [if_neg (by omega)]
  | succ d ih =>
    intro i hi
    have h := sp_l1 s hs i (by omega) _ (ih (i + 1) (by omega)) 8 (Nat.le_refl _)
    rw [show 8 * i + (8 - 8) = 8 * i by omega, show ((8 : Nat) : Int) - 1 = 7 by omega] at h
    refine Ev.step (fun k => ?_) h
    simp only [spec_l04Bits.l0]; rw [if_pos (by omega)]
/-! ### draws out of a code -/
theorem src_byte {l : List Int} (h : Bytes l) (at_ sd : Int) (h0 : 0 ≤ at_ ∧ at_ ≤ 1000000000) (h1 : 0 ≤ sd ∧ sd < 2147483648) : ∃ r q : Int, spec_l00Src_byte.f l at_ sd = some (r, at_ + 1, q) ∧ (0 ≤ r ∧ r < 256) ∧ (0 ≤ q ∧ q < 2147483648) := by
  obtain ⟨i, rfl⟩ : ∃ i : Nat, at_ = i := ⟨at_.toNat, by omega⟩
  have hb := rd_byte h i
  unfold spec_l00Src_byte.f
  rw [if_pos ⟨h0, h1, by omega, by omega⟩]
  split
  · exact ⟨_, _, rfl, hb, by omega⟩
  · split
    · exact ⟨_, _, rfl, by omega, h1⟩
    · exact ⟨_, _, rfl, by omega, by omega⟩
theorem src_next {l : List Int} (h : Bytes l) (at_ sd n : Int) (h0 : 0 ≤ at_ ∧ at_ ≤ 1000000000) (h1 : 0 ≤ sd ∧ sd < 2147483648) (hn : 1 ≤ n ∧ n ≤ 256) : ∃ r a q : Int, spec_l00Src_next.f l at_ sd n = some (r, a, q) ∧ (0 ≤ r ∧ r < n) ∧ (at_ ≤ a ∧ a ≤ at_ + 1) ∧ (0 ≤ q ∧ q < 2147483648) := by
  unfold spec_l00Src_next.f
  by_cases h2 : n ≤ 1
  · rw [if_pos h2]; exact ⟨_, _, _, rfl, by omega, by omega, h1⟩
  · obtain ⟨r, q, hr, hr2, hq⟩ := src_byte h at_ sd h0 h1
    rw [if_neg h2, if_pos hn.2, hr, Option.bind_some, if_neg (by omega)]
    refine ⟨_, at_ + 1, q, rfl, ?_, by omega, hq⟩
    rw [Int.tmod_eq_emod_of_nonneg hr2.1]
    exact ⟨Int.emod_nonneg _ (by omega), Int.emod_lt_of_pos _ (by omega)⟩
/-! ### a choice out of bytes -/
theorem at_ev {l : List Int} (h : Bytes l) (hl : l.length ≤ 1048576) (i n : Nat) (hi : i ≤ 1000) (hn : 1 ≤ n ∧ n ≤ 1000000) : ∃ r : Nat, laws_at.f l (i : Int) (n : Int) = some (r : Int) ∧ r < n := by
  unfold laws_at.f
  by_cases h2 : (n : Int) ≤ 1
  · exact ⟨0, by rw [if_pos h2]; rfl, by omega⟩
  · rw [if_neg h2]
    by_cases h3 : (l.length : Int) = 0
    · rw [if_pos h3, if_neg (by omega), wrap64_id (by omega) (by omega), Int.tmod_eq_emod_of_nonneg (by omega)]
      exact ⟨(i * 7) % n, by rw [Int.natCast_emod, Int.natCast_mul]; rfl, Nat.mod_lt _ (by omega)⟩
    · have e1 : Int.tmod (i : Int) (l.length : Int) = ((i % l.length : Nat) : Int) := by rw [Int.tmod_eq_emod_of_nonneg (by omega), Int.natCast_emod]
      have e2 : Int.tmod (wrap64 ((i : Int) + 1)) (l.length : Int) = (((i + 1) % l.length : Nat) : Int) := by rw [wrap64_id (by omega) (by omega), Int.tmod_eq_emod_of_nonneg (by omega), Int.natCast_emod]; rfl
      obtain ⟨w, hw⟩ : ∃ w, w = i / l.length := ⟨_, rfl⟩
      have e3 : Int.tdiv (i : Int) (l.length : Int) = (w : Int) := by rw [hw, Int.tdiv_eq_ediv_of_nonneg (by omega), Int.natCast_ediv]
      obtain ⟨x1, hx1⟩ : ∃ x, x = i % l.length := ⟨_, rfl⟩
      obtain ⟨x2, hx2⟩ : ∃ x, x = (i + 1) % l.length := ⟨_, rfl⟩
      have l1 : i % l.length < l.length := Nat.mod_lt _ (by omega)
      have l2 : (i + 1) % l.length < l.length := Nat.mod_lt _ (by omega)
      have b1 := rd_byte h (i % l.length)
      have b2 := rd_byte h ((i + 1) % l.length)
      have d1 : w ≤ i := by rw [hw]; exact Nat.div_le_self _ _
      rw [← hx1] at e1 l1 b1
      rw [← hx2] at e2 l2 b2
      rw [if_neg h3, e1, e2, e3, if_pos (by omega), if_pos (by omega), if_pos (by omega), if_pos (by omega), if_neg (by omega)]
      rw [wrap64_id (x := rd l (x1 : Int)) (by omega) (by omega), wrap64_id (x := rd l (x1 : Int) * 31) (by omega) (by omega), wrap64_id (x := rd l (x2 : Int)) (by omega) (by omega), wrap64_id (x := rd l (x1 : Int) * 31 + rd l (x2 : Int)) (by omega) (by omega), wrap64_id (x := (w : Int)) (by omega) (by omega), wrap64_id (by omega) (by omega)]
      obtain ⟨m, hm⟩ : ∃ m : Nat, rd l (x1 : Int) * 31 + rd l (x2 : Int) + (w : Int) = m := ⟨(rd l (x1 : Int) * 31 + rd l (x2 : Int) + (w : Int)).toNat, by omega⟩
      rw [hm, Int.tmod_eq_emod_of_nonneg (by omega)]
      exact ⟨m % n, by rw [Int.natCast_emod], Nat.mod_lt _ (by omega)⟩
/-! ### bytes drawn -/
theorem src_bytes_l0 {l : List Int} (h : Bytes l) (d : Nat) : ∀ (acc : List Int) (at_ sd : Int), Bytes acc → acc.length + d ≤ 1000 → (0 ≤ at_ ∧ at_ + d ≤ 1000000000) → (0 ≤ sd ∧ sd < 2147483648) → ∃ r : List Int × Int × Int, Bytes r.1 ∧ r.1.length = acc.length + d ∧ Ev (fun k => spec_l00Src_bytes.l0 k acc (d : Int) l at_ sd) r := by
  induction d with
  | zero =>
    intro acc at_ sd hB _ _ _
    refine ⟨(acc, at_, sd), hB, rfl, Ev.step (fun k => ?_) (Ev.now _)⟩
    simp only [spec_l00Src_bytes.l0]; rw [if_neg (by omega)]
  | succ d ih =>
    intro acc at_ sd hB hl h0 h1
    obtain ⟨r, a, q, hr, hr2, ha, hq⟩ := src_next h at_ sd 256 (by omega) h1 (by omega)
    have w1 : wrap64 (((d + 1 : Nat) : Int) - 1) = (d : Int) := by rw [wrap64_id (by omega) (by omega)]; omega
    have hB2 : Bytes (acc ++ [r % 256]) := fun x hx => by
      rcases List.mem_append.1 hx with h2 | h2
      · exact hB x h2
      · rw [List.mem_singleton] at h2; omega
    obtain ⟨res, hb, hlen, hE⟩ := ih (acc ++ [r % 256]) a q hB2 (by rw [List.length_append, List.length_singleton]; omega) (by omega) hq
    refine ⟨res, hb, by rw [hlen, List.length_append, List.length_singleton]; omega, Ev.step (fun k => ?_) hE⟩
    simp only [spec_l00Src_bytes.l0]
    rw [if_pos (by omega), hr, Option.bind_some, if_pos (by omega), w1]
-- SAYS: FnHashes: hashes and sums of words are those of the reference, told in digits and bits and read back; a word hashed once more is its hash hashed with the salt.
-- USES: Bytes Sha Pass Hex Crc BitsH Src SrcB
-- IMPORTS: Derived.Laws.BitsAllLaws Derived.Laws.BitsLemmas
theorem drawn20 {l : List Int} (h : Bytes l) (hl : l.length ≤ 1048576) : ∃ t : List Int, Bytes t ∧ t.length ≤ 20 ∧ Ev (fun k => spec_BytesOf.f k l 20) t := by
  obtain ⟨r, a, q, hr, hr2, ha, hq⟩ := src_next h 0 ((l.length : Int) % 1000) 21 (by omega) (by omega) (by omega)
  obtain ⟨m, rfl⟩ : ∃ m : Nat, r = m := ⟨r.toNat, by omega⟩
  obtain ⟨res, hb, hlen, hE⟩ := src_bytes_l0 h m [] a q (fun x hx => by simp at hx) (by simp; omega) (by omega) hq
  refine ⟨res.1, hb, by rw [hlen]; simp; omega, ?_⟩
  refine Ev.congr (fun k => by unfold spec_BytesOf.f spec_l00Source.f; rw [Option.bind_some]) ?_
  refine Ev.bind (a := res) ?_ (Ev.now _)
  refine Ev.congr (fun k => ?_) hE
  unfold spec_l00Src_bytes.f
  rw [show wrap64 (20 + 1) = 21 by rw [wrap64_id (by omega) (by omega)]; rfl, hr, Option.bind_some]
/-! ### the digits of a hash, and back -/
def hexD (s : ByteArray) : Nat → List Int
  | 0 => []
  | m + 1 => hexD s m ++ [bt digs (bt s (m : Int) / 16), bt digs (bt s (m : Int) % 16)]
theorem hexD_length (s : ByteArray) : ∀ m, (hexD s m).length = 2 * m
  | 0 => rfl
  | m + 1 => by simp only [hexD, List.length_append, hexD_length s m, List.length_cons, List.length_nil]; omega
theorem hexD_bytes (s : ByteArray) : ∀ m, Bytes (hexD s m)
  | 0 => fun x hx => by simp [hexD] at hx
  | m + 1 => fun x hx => by
    simp only [hexD, List.mem_append, List.mem_cons, List.not_mem_nil, or_false] at hx
    rcases hx with hx | rfl | rfl
    · exact hexD_bytes s m x hx
    · exact ⟨bt_0 _ _, by have := bt_255 digs (bt s (m : Int) / 16); omega⟩
    · exact ⟨bt_0 _ _, by have := bt_255 digs (bt s (m : Int) % 16); omega⟩
theorem hexD_at (s : ByteArray) (m : Nat) : ∀ j, j < m → (hexD s m)[2 * j]? = some (bt digs (bt s (j : Int) / 16)) ∧ (hexD s m)[2 * j + 1]? = some (bt digs (bt s (j : Int) % 16)) := by
  induction m with
  | zero => intro j hj; omega
  | succ m ih =>
    intro j hj
    have hl := hexD_length s m
    unfold hexD
    by_cases h : j < m
    · rw [List.getElem?_append_left (by omega), List.getElem?_append_left (by omega)]
      exact ih j h
    · obtain rfl : j = m := by omega
      rw [List.getElem?_append_right (by omega), List.getElem?_append_right (by omega), hl, show 2 * j - 2 * j = 0 by omega, show 2 * j + 1 - 2 * j = 1 by omega]
      exact ⟨rfl, rfl⟩
theorem hexD_bt (s : ByteArray) (m j : Nat) (h : j < m) : bt (strOfNums (hexD s m)) ((2 * j : Nat) : Int) = bt digs (bt s (j : Int) / 16) ∧ bt (strOfNums (hexD s m)) ((2 * j + 1 : Nat) : Int) = bt digs (bt s (j : Int) % 16) := by
  obtain ⟨h1, h2⟩ := hexD_at s m j h
  rw [str_bt (hexD_bytes s m), str_bt (hexD_bytes s m), rd_nat, rd_nat, List.getD_eq_getElem?_getD, List.getD_eq_getElem?_getD, h1, h2]
  exact ⟨rfl, rfl⟩
theorem hexText_l0 (s : ByteArray) (hs : s.size ≤ 65536) (d : Nat) : ∀ i : Nat, i + d = s.size → Ev (fun k => impl_hexText.l0 k s (hexD s i) (s.size : Int) (i : Int)) (strOfNums (hexD s s.size)) := by
  induction d with
  | zero =>
    intro i hi
    obtain rfl : i = s.size := by omega
    refine Ev.step (f := fun _ => some _) (fun k => ?_) (Ev.now _)
    simp only [impl_hexText.l0]; rw [if_neg (by omega)]
  | succ d ih =>
    intro i hi
    have hw : wrap64 ((i : Int) + 1) = ((i + 1 : Nat) : Int) := by rw [wrap64_id (by omega) (by omega)]; omega
    have b0 := bt_0 s (i : Int)
    have b1 := bt_255 s (i : Int)
    have hl := hexD_length s i
    refine Ev.step (fun k => ?_) (ih (i + 1) (by omega))
    simp only [impl_hexText.l0, nib_hi, nib_lo, hw]
    rw [if_pos (by omega), if_pos (by omega), if_pos (by omega), if_pos (by omega), if_pos (by omega), if_pos (by omega), if_pos (by omega)]
    simp only [Option.bind_some, List.length_cons, List.length_nil]
    rw [if_pos (by omega)]
    rfl
theorem hexText_ev (s : ByteArray) (h : s.size = 32) : Ev (fun k => impl_HashText.f k s) (strOfNums (hexD s 32), (0 : Int)) := by
  have e := hexText_l0 s (by omega) s.size 0 (by omega)
  rw [h] at e
  refine Ev.congr (fun k => by unfold impl_HashText.f impl_hashOK.f; rw [if_neg (by omega), Option.bind_some, if_pos (by rw [h]; rfl)]) ?_
  refine Ev.bind (a := strOfNums (hexD s 32)) ?_ (Ev.now _)
  exact Ev.congr (fun k => by unfold impl_hexText.f; rw [h]; rfl) e
theorem str_of_bytes (a : ByteArray) : strOfNums (bytesOf a) = a := by
  apply toList_inj
  rw [toList_data, toList_data, strOfNums_data]
  unfold bytesOf
  rw [List.map_map]
  conv => rhs; rw [← List.map_id a.data.toList]
  apply List.map_congr_left
  intro x _
  simp [Function.comp]
theorem bytesOf_at (s : ByteArray) (k : Nat) (hk : k < (bytesOf s).length) : (bytesOf s)[k] = bt s (k : Int) := by
  have h1 := str_bt (bytesOf_Bytes s) k
  rw [str_of_bytes, rd_at _ _ hk] at h1
  exact h1.symm
theorem readBack_ev (s : ByteArray) (h : s.size = 32) : Ev (fun k => impl_ReadHash.f k (strOfNums (hexD s 32))) (s, (0 : Int)) := by
  have hz : (strOfNums (hexD s 32)).size = 64 := by rw [str_size, hexD_length]
  have hbl : (bytesOf s).length = 32 := by rw [bytesOf_size, h]
  have hF : hexF (strOfNums (hexD s 32)) 32 0 = some (bytesOf s) := by
    have := hexF_ok (strOfNums (hexD s 32)) (bytesOf s) (bytesOf_Bytes s) 0 (fun k hk => by
      rw [Nat.zero_add, bytesOf_at s k hk]
      exact hexD_bt s 32 k (by omega))
    rwa [hbl] at this
  have e := hex_ev (strOfNums (hexD s 32)) (by omega)
  rw [hz] at e
  rw [show 64 / 2 = 32 from rfl, hF] at e
  refine Ev.congr (fun k => by unfold impl_ReadHash.f; rw [if_neg (by omega)]) ?_
  refine Ev.bind e ?_
  have h2 : (outI (strOfNums (hexD s 32)) (some (bytesOf s))) = (s, true) := by
    show (strOfNums (bytesOf s), (((strOfNums (hexD s 32)).size : Int) % 2 == 0)) = _
    rw [str_of_bytes, hz]
    rfl
  rw [h2]
  refine Ev.congr (f := fun _ => some (s, (0 : Int))) (fun k => ?_) (Ev.now _)
  unfold impl_hashOK.f
  rw [if_pos rfl, Option.bind_some, if_pos (by rw [h]; rfl)]
theorem passIt_succ (x0 : ByteArray) : ∀ (n : Nat) (h : ByteArray), passIt x0 (n + 1) h = hashS (x0 ++ passIt x0 n h)
  | 0, h => rfl
  | n + 1, h => passIt_succ x0 n (hashS (x0 ++ h))
theorem passIt_size (x0 : ByteArray) : ∀ (n : Nat) (h : ByteArray), h.size = 32 → (passIt x0 n h).size = 32
  | 0, h, e => e
  | n + 1, h, e => passIt_size x0 n _ (hashS_size _)
theorem FnHashes : laws_FnHashes.Pure := by
  intro l0 l1 _ _ hw0 _ _ hw1
  apply Ev.rounds
  have hB0 := bytes_wf hw0
  have hB1 := bytes_wf hw1
  have jT : Ev (fun k => laws_FnHashes.j0 k l0 l1 true) true := Ev.step (f := fun _ => some true) (fun k => by simp only [laws_FnHashes.j0]; rw [if_pos trivial]) (Ev.now _)
  by_cases h0 : l0.length > 1048576
  · exact Ev.congr (fun k => by unfold laws_FnHashes.f; rw [if_pos (by omega)]) jT
  by_cases h1 : l1.length > 1048576
  · exact Ev.congr (fun k => by unfold laws_FnHashes.f; rw [if_neg (by omega), decide_eq_true (by omega)]) jT
  refine Ev.congr (fun k => by unfold laws_FnHashes.f; rw [if_neg (by omega), decide_eq_false (by omega)]) ?_
  by_cases hl : (l0.length : Int) > 65536
  · have eH : impl_Hash.f l0 = some ⟨#[]⟩ := by unfold impl_Hash.f; rw [if_pos hl]
    have eC : ∀ k, impl_Check32.f k l0 = some 0 := fun k => by unfold impl_Check32.f; rw [if_pos hl]
    refine Ev.step (f := fun _ => some true) (fun k => ?_) (Ev.now _)
    simp only [laws_FnHashes.j0]
    rw [if_neg (by decide), if_pos hl, eH, Option.bind_some, if_pos (show (⟨#[]⟩ : ByteArray).toList = [] from by rw [toList_data]), eC, Option.bind_some]
    rfl
  · -- the hash and what is told of it
    obtain ⟨h, hh⟩ : ∃ h, h = Sha.shaS Sha.tab l0 := ⟨_, rfl⟩
    have hz : h.size = 32 := by rw [hh]; exact shaS_size _
    have eH : impl_Hash.f l0 = some h := by unfold impl_Hash.f; rw [if_neg hl, sha_is l0 (by omega) hB0, ← hh]; rfl
    have eS : Ev (fun k => spec_Hash.f k l0) h := Ev.congr (fun k => by unfold spec_Hash.f; rw [if_neg hl]) (Ev.bind (by rw [hh]; exact hash_ev l0 (by omega) hB0) (Ev.now _))
    have eB : impl_HashBits.f h = some (strOfNums (bitsUpto h 256), 0) := by unfold impl_HashBits.f; rw [if_neg (by omega), if_pos (by omega)]
    have eBS : Ev (fun k => spec_HashBits.f k h) (strOfNums (bitsUpto h 256), (0 : Int)) := by
      have e := sp_l0 h hz 32 0 (by omega)
      refine Ev.congr (fun k => by unfold spec_HashBits.f; rw [if_neg (by omega), if_pos (by omega)]) (Ev.bind (a := strOfNums (bitsUpto h 256)) ?_ (Ev.now _))
      exact Ev.congr (fun k => by unfold spec_l04Bits.f; rfl) e
    obtain ⟨t, hBt, hlt, eT⟩ := drawn20 hB1 (by omega)
    obtain ⟨n, eN, hn⟩ := at_ev hB1 (by omega) 0 6 (by omega) (by omega)
    have eN' : laws_at.f l1 0 6 = some (n : Int) := eN
    obtain ⟨S, hS⟩ : ∃ S : ByteArray, S = ⟨#[115, 97, 108, 116]⟩ := ⟨_, rfl⟩
    have hSz : S.size = 4 := by rw [hS]; rfl
    obtain ⟨W, hW⟩ : ∃ W : ByteArray, W = strOfNums t := ⟨_, rfl⟩
    have hWz : W.size ≤ 20 := by rw [hW, str_size]; exact hlt
    have pA : ∀ m : Nat, m ≤ 20 → passA S W (m : Int) = (passIt S m (pass0 S W), 0) := fun m hm => by
      unfold passA
      rw [if_neg (by omega), if_neg (by omega), Int.toNat_natCast]
    obtain ⟨P, hP⟩ : ∃ P, P = passIt S n (pass0 S W) := ⟨_, rfl⟩
    have hPz : P.size = 32 := by rw [hP]; exact passIt_size S n _ (hashS_size _)
    have e1 : Ev (fun k => impl_PassHash.f k S W (n : Int)) (P, (0 : Int)) := by have := passA_impl S W (n : Int); rwa [pA n (by omega), ← hP] at this
    have e2 : Ev (fun k => spec_PassHash.f k S W (n : Int)) (P, (0 : Int)) := by have := passA_spec S W (n : Int); rwa [pA n (by omega), ← hP] at this
    have e3 : Ev (fun k => impl_PassHash.f k S W (wrap64 ((n : Int) + 1))) (hashS (S ++ P), (0 : Int)) := by
      have := passA_impl S W ((n + 1 : Nat) : Int)
      rw [pA (n + 1) (by omega), passIt_succ, ← hP] at this
      rw [show wrap64 ((n : Int) + 1) = ((n + 1 : Nat) : Int) by rw [wrap64_id (by omega) (by omega)]; omega]
      exact this
    have hSP := app_size S P
    have e4 : impl_Hash.f (bytesOf (S ++ P)) = some (hashS (S ++ P)) := by
      have hl2 := bytesOf_size (S ++ P)
      unfold impl_Hash.f
      rw [if_neg (by omega), hashS_impl _ (by omega)]; rfl
    have q1 : 4 + (P, (0 : Int)).1.size ≤ 9223372036854775807 := by show 4 + P.size ≤ _; omega
    have q2 : (S ++ (P, (0 : Int)).1).size ≤ 140737488355328 := by show (S ++ P).size ≤ _; omega
    have e4' : impl_Hash.f (bytesOf (S ++ (P, (0 : Int)).1)) = some (hashS (S ++ P)) := e4
    have e5 : impl_SameHash.f P P = some true := by
      unfold impl_SameHash.f impl_hashOK.f
      rw [Option.bind_some, if_pos (by rw [hPz]; rfl)]
      simp
    obtain ⟨c, c1, c2⟩ : ∃ c, Ev (fun k => impl_Check32.f k l0) c ∧ Ev (fun k => spec_Check32.f k l0) c := by
      obtain ⟨r, h2, h3⟩ := check32_l0 l0 (by omega) hw0 l0.length 0 4294967295 (by omega) (by omega)
      refine ⟨r, Ev.congr (fun k => ?_) h3, Ev.congr (fun k => ?_) h2⟩
      · unfold impl_Check32.f; rw [if_neg hl]; rfl
      · unfold spec_Check32.f spec_l04Check.f; rw [if_neg hl]
        simp only [Option.bind_some, Option.bind_fun_some]; rfl
    refine Ev.step (fun k => by simp only [laws_FnHashes.j0]; rw [if_neg (by decide), if_neg hl, eH, Option.bind_some]) ?_
    rw [← hS]
    refine Ev.bind (hexText_ev h hz) ?_
    refine Ev.bind (readBack_ev h hz) ?_
    refine Ev.congr (fun k => by rw [eB, Option.bind_some]) ?_
    refine Ev.bind eBS ?_
    refine Ev.bind eT ?_
    rw [← hW]
    refine Ev.congr (fun k => by rw [eN', Option.bind_some]) ?_
    refine Ev.bind e1 ?_
    refine Ev.bind e2 ?_
    refine Ev.bind e3 ?_
    refine Ev.congr (fun k => by rw [if_pos q1, if_pos q2, e4', Option.bind_some]) ?_
    refine Ev.bind eS ?_
    refine Ev.congr (fun k => by rw [if_pos rfl, if_pos (by omega), if_pos rfl, if_pos rfl, if_pos rfl, if_pos rfl, if_pos rfl, if_pos rfl, if_pos rfl, if_pos rfl, if_pos rfl, e5, Option.bind_some, if_pos rfl]) ?_
    refine Ev.bind c1 ?_
    refine Ev.bind c2 ?_
    exact Ev.congr (f := fun _ => some true) (fun k => by simp) (Ev.now _)

end Go.Proofs.YtohlocmdpdghiaaDoor.Pure
