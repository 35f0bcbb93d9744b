/- What is read behind a write, a flush and a crash. -/
import Derived.Test.YtenbcpjlbfojlaaDQ
namespace Go.Proofs.Ytenbcpjlbfojlaa.DA
open Go.RowKit Go.Proofs.YtenbcpjlbfojlaaW.PrintWords Go.Proofs.YtenbcpjlbfojlaaW.PrintLast Go.Proofs.YtenbcpjlbfojlaaW.PrintMore Go.Proofs.Ytenbcpjlbfojlaa.PD
set_option linter.unusedVariables false
set_option linter.unusedSimpArgs false
def blk (bl : List Int) (q : Nat) : List Int := (bl.drop (q * 256)).take 256
def gotW (bl : List Int) (ws : List Wr) (q : Nat) : List Int := match ws.reverse.find? (fun x => x.n == (q : Int)) with | some x => x.b | none => blk bl q
theorem got_W (d : Dv) (q : Nat) : got d (q : Int) = gotW d.blocks d.waits q := rfl
theorem gotW_snoc (bl : List Int) (ws : List Wr) (x : Wr) (q : Nat) : gotW bl (ws ++ [x]) q = if x.n = (q : Int) then x.b else gotW bl ws q := by
  unfold gotW
  rw [List.reverse_append]
  simp only [List.reverse_cons, List.reverse_nil, List.nil_append, List.singleton_append, List.find?_cons]
  by_cases h : x.n = (q : Int)
  · rw [if_pos h, beq_iff_eq.2 h]
  · rw [if_neg h, beq_eq_false_iff_ne.2 h]
theorem blk_gen (M x y : Nat) (bl b : List Int) (hb : b.length = M) (e1 : x + M ≤ y ∨ y + M ≤ x) (e2 : y + M ≤ bl.length) (e3 : x + M ≤ bl.length) : ((splice bl x b).drop y).take M = (bl.drop y).take M := by
  unfold splice
  apply List.ext_getElem?
  intro i
  by_cases hi : i < M
  · rw [List.getElem?_take_of_lt hi, List.getElem?_take_of_lt hi, List.getElem?_drop, List.getElem?_drop]
    rcases e1 with h1 | h1
    · rw [List.getElem?_append_right (by rw [List.length_take]; omega), List.getElem?_append_right (by rw [List.length_take]; omega), List.getElem?_drop, List.length_take]
      congr 1
      omega
    · rw [List.getElem?_append_left (by rw [List.length_take]; omega), List.getElem?_take_of_lt (by omega)]
  · rw [List.getElem?_eq_none (by rw [List.length_take]; omega), List.getElem?_eq_none (by rw [List.length_take]; omega)]
theorem blk_own' (M x : Nat) (bl b : List Int) (hb : b.length = M) (e3 : x + M ≤ bl.length) : ((splice bl x b).drop x).take M = b := by
  unfold splice
  rw [List.drop_append_of_le_length (by rw [List.length_take]; omega), List.drop_eq_nil_of_le (by rw [List.length_take]; omega), List.nil_append, List.take_append_of_le_length (by omega), List.take_of_length_le (by omega)]
theorem blk_lay (bl : List Int) (n q N : Nat) (b : List Int) (hb : b.length = 256) (hbl : bl.length = N * 256) (hn : n < N) (hq : q < N) : blk (splice bl (n * 256) b) q = if n = q then b else blk bl q := by
  unfold blk
  by_cases h : n = q
  · rw [if_pos h, ← h]
    exact blk_own' _ _ bl b hb (by omega)
  · rw [if_neg h]
    exact blk_gen _ _ _ bl b hb (by omega) (by omega) (by omega)
theorem lay_all {bl : List Int} {x : Wr} (hx : x.b.length = 256) : lay bl x 256 = splice bl (x.n.toNat * 256) x.b := by
  unfold lay
  rw [List.take_of_length_le (by omega)]
def WsOk (N : Nat) (ws : List Wr) : Prop := ∀ x ∈ ws, (0 ≤ x.n ∧ x.n < N) ∧ x.b.length = 256
theorem blk_flushed {N : Nat} {bl : List Int} (hb : bl.length = N * 256) (q : Nat) (hq : q < N) : ∀ (m : Nat) (ws : List Wr), ws.length = m → WsOk N ws → blk (flushed bl ws) q = gotW bl ws q
  | 0, ws, h, _ => by
    obtain rfl := List.length_eq_zero_iff.1 h
    rfl
  | m + 1, ws, h, hw => by
    obtain ⟨ini, x, rfl⟩ : ∃ ini x, ws = ini ++ [x] := by
      rcases List.eq_nil_or_concat ws with h1 | ⟨l, x, h1⟩
      · rw [h1] at h; exact absurd h (by simp)
      · exact ⟨l, x, by simpa using h1⟩
    have hx := hw x (List.mem_append.2 (.inr (List.mem_singleton.2 rfl)))
    have hi : WsOk N ini := fun y hy => hw y (List.mem_append.2 (.inl hy))
    obtain ⟨n, hn⟩ : ∃ n : Nat, x.n = (n : Int) := ⟨x.n.toNat, by omega⟩
    rw [flushed_snoc, lay_all hx.2, gotW_snoc, hn, Int.toNat_natCast, blk_lay _ n q N _ hx.2 (flushed_len hb hi) (by omega) hq, blk_flushed hb q hq m ini (by simpa using h) hi]
    by_cases h9 : n = q
    · rw [if_pos h9, if_pos (by omega)]
    · rw [if_neg h9, if_neg (by omega)]
section
variable {N : Nat} {d : Dv}
theorem got_flush (h : Wf d N) (q : Nat) (hq : q < N) : got d.flush (q : Int) = got d (q : Int) := blk_flushed h.of.1 q hq _ d.waits rfl h.ws
theorem crash_nil {keep torn parts : Int} (h : d.waits = []) : d.crash keep torn parts = ⟨d.blocks, [], d.shelf, d.trace⟩ := by
  unfold Dv.crash crashed
  rw [h]
  rfl
theorem got_flush_crash (h : Wf d N) (keep torn parts : Int) (q : Nat) (hq : q < N) : got (d.flush.crash keep torn parts) (q : Int) = got d (q : Int) := by
  rw [crash_nil rfl]
  exact got_flush h q hq
theorem write_ok {n : Nat} {b : List Int} (hn : n < N) (hb : b.length = 256) : d.write N (n : Int) b = (⟨d.blocks, d.waits ++ [⟨(n : Int), b⟩], d.shelf, d.trace ++ [(n : Int)]⟩, 0) := by
  unfold Dv.write
  rw [ask_in (by omega)]
  simp [hb]
theorem got_write {n : Nat} {b : List Int} (hn : n < N) (hb : b.length = 256) (q : Nat) : got (d.write N (n : Int) b).1 (q : Int) = if n = q then b else got d (q : Int) := by
  rw [write_ok hn hb, got_W, gotW_snoc]
  by_cases h : n = q
  · rw [if_pos h, if_pos (by simp only; omega)]
  · rw [if_neg h, if_neg (by simp only; omega)]
    rfl
theorem read_ok {q : Nat} (hq : q < N) : d.read N (q : Int) = (got d (q : Int), 0) := by
  unfold Dv.read
  rw [ask_in (by omega)]
  simp
end
theorem and_low (x m : Int) (k : Nat) (hm : m = 2 ^ k - 1) (hk : k < 8) (h2 : ((BitVec.ofInt 64 x) &&& (BitVec.ofInt 64 m)).toNat = (x % 18446744073709551616).toNat % 2 ^ k) (h3 : 2 ^ k ≤ 128) : bits .and .i64 x m = ((x % 18446744073709551616).toNat % 2 ^ k : Nat) := by
  have h4 : (x % 18446744073709551616).toNat % 2 ^ k < 128 := Nat.lt_of_lt_of_le (Nat.mod_lt _ (Nat.two_pow_pos k)) h3
  show IntKind.wrap .i64 (((BitVec.ofInt 64 x) &&& (BitVec.ofInt 64 m)).toNat : Int) = _
  rw [h2]
  generalize (x % 18446744073709551616).toNat % 2 ^ k = y at h4
  simp [IntKind.wrap, IntKind.signed, IntKind.bits]
  omega
theorem and7 (x : Int) : bits .and .i64 x 7 = x % 8 := by
  rw [and_low x 7 3 (by decide) (by decide) (by
    rw [BitVec.toNat_and, BitVec.toNat_ofInt]
    exact Nat.and_two_pow_sub_one_eq_mod _ 3) (by decide)]
  omega
theorem and3 (x : Int) : bits .and .i64 x 3 = x % 4 := by
  rw [and_low x 3 2 (by decide) (by decide) (by
    rw [BitVec.toNat_and, BitVec.toNat_ofInt]
    exact Nat.and_two_pow_sub_one_eq_mod _ 2) (by decide)]
  omega
end Go.Proofs.Ytenbcpjlbfojlaa.DA
