/- The plain law of views: what the functions of the view package compute, over whole numbers; sets as rows of bits. No program in sight, no conditions. -/
import Derived.Laws.BitsAllLaws
import Derived.RowKit
namespace Go.Proofs.Ytdpjgnefjickkaa
open Go.RowKit

def bi (x : BitVec 32) : Int := (x.toNat : Int)
theorem bi_range (x : BitVec 32) : 0 ≤ bi x ∧ bi x < 4294967296 := by
  have := x.isLt
  unfold bi
  omega
theorem bi_or (a b : BitVec 32) : Go.bits .or .u32 (bi a) (bi b) = bi (a ||| b) := by
  unfold bi
  rw [u32_or_nat _ _ a.isLt b.isLt, BitVec.toNat_or]
theorem bi_and (a b : BitVec 32) : Go.bits .and .u32 (bi a) (bi b) = bi (a &&& b) := by
  unfold bi
  rw [u32_and_nat _ _ a.isLt b.isLt, BitVec.toNat_and]
theorem bi_andNot (a b : BitVec 32) : Go.bits .andNot .u32 (bi a) (bi b) = bi (a &&& ~~~b) := by
  unfold bi
  rw [u32_andNot_nat _ _ a.isLt b.isLt, BitVec.toNat_and, BitVec.toNat_not]
theorem bi_inj {a b : BitVec 32} (h : bi a = bi b) : a = b := by
  unfold bi at h
  exact BitVec.eq_of_toNat_eq (by omega)
theorem bi_beq (a b : BitVec 32) : (bi a == bi b) = (a == b) := by
  by_cases h : a = b
  · subst h; simp
  · rw [beq_eq_false_iff_ne.2 h, beq_eq_false_iff_ne.2 (fun e => h (bi_inj e))]
theorem bi_zero : bi 0#32 = 0 := rfl
theorem bi_shl (n : Nat) (hn : n < 32) : (2 : Int) ^ n % 4294967296 = bi (1#32 <<< n) := by
  unfold bi
  have h : ((2 : Nat) ^ n) < 2 ^ 32 := Nat.pow_lt_pow_right (by omega) hn
  have e : (2 : Int) ^ n = ((2 ^ n : Nat) : Int) := by simp
  rw [e]
  simp only [BitVec.toNat_shiftLeft, Nat.shiftLeft_eq]
  have : (1#32).toNat = 1 := rfl
  rw [this]
  omega
structure V where
  n : Int
  s : Int
  j : Int
  l : Int
  f : Int
def rightV (v : V) : Bool := decide (0 ≤ v.n) && (Go.bits .and .u32 v.j v.s == 0) && (Go.bits .andNot .u32 (Go.bits .or .u32 v.l v.f) v.s == 0)

def anyV (v : V) : Int := Go.bits .or .u32 (Go.bits .or .u32 v.j v.l) v.f
def incV (n : Int) : Int := if n < 9223372036854775807 then wrap64 (n + 1) else n
def endV (v : V) : V × Bool := if anyV v == 0 then (v, false) else (⟨incV v.n, Go.bits .andNot .u32 (Go.bits .or .u32 v.s v.j) (Go.bits .or .u32 v.l v.f), 0, 0, 0⟩, true)

def shlV (node : Int) : Int := 2 ^ (node % 32).toNat % 4294967296

def stepV (v : V) (what node : Int) : V × Bool × Int :=
  if rightV v = false ∨ what = 0 ∨ 4 < what ∨ (¬ what = 4 ∧ 31 < node) then (v, false, 230)
  else if what = 1 then ({ v with j := Go.bits .or .u32 v.j (Go.bits .andNot .u32 (shlV node) v.s) }, false, 0)
  else if what = 2 then ({ v with j := Go.bits .andNot .u32 v.j (shlV node), l := Go.bits .or .u32 v.l (Go.bits .and .u32 (shlV node) v.s) }, false, 0)
  else if what = 3 then ({ v with j := Go.bits .andNot .u32 v.j (shlV node), f := Go.bits .or .u32 v.f (Go.bits .and .u32 (shlV node) v.s) }, false, 0)
  else ((endV v).1, (endV v).2, 0)

structure E where
  what : Int
  node : Int
def E.z : E := ⟨0, 0⟩
def E.ok (x : E) : Prop := 0 ≤ x.what ∧ x.what ≤ 255 ∧ 0 ≤ x.node ∧ x.node ≤ 255
def atE (l : List E) (i : Nat) : E := l.getD i E.z

theorem atE_ok {l : List E} (h : ∀ x ∈ l, x.ok) {i : Nat} (hi : i < l.length) : (atE l i).ok := by
  unfold atE
  rw [List.getD_eq_getElem?_getD, List.getElem?_eq_getElem hi]
  exact h _ (List.getElem_mem hi)

def runV (v : V) (is : Bool) : List E → V × Bool
  | [] => (v, is)
  | x :: r => runV (stepV v x.what x.node).1 (stepV v x.what x.node).2.1 r
theorem runV_append (l m : List E) : ∀ (v : V) (is : Bool), runV v is (l ++ m) = runV (runV v is l).1 (runV v is l).2 m := by
  induction l with
  | nil => intro v is; rfl
  | cons x r ih => intro v is; exact ih _ _
theorem take_snoc (l : List E) (k : Nat) (h : k < l.length) : l.take (k + 1) = l.take k ++ [atE l k] := by
  rw [List.take_succ_eq_append_getElem h]
  unfold atE
  rw [List.getD_eq_getElem?_getD, List.getElem?_eq_getElem h]
  rfl
end Go.Proofs.Ytdpjgnefjickkaa
