/- Plain lemmas on byte strings as lists of numbers. -/
import Derived.Test.YtofagdjijpjlgaaDoorWWords
namespace Go.Proofs.YtofagdjijpjlgaaDoor.X
open Go.RowKit Go.Proofs.YtofagdjijpjlgaaDoorW.PrintWords

theorem bs_inj {a b : ByteArray} (h : bytesOf a = bytesOf b) : a = b := by
  unfold bytesOf at h
  have h2 : a.data.toList = b.data.toList := by
    refine (List.map_inj_right (f := fun b : UInt8 => (b.toNat : Int)) ?_).1 h
    intro x y hxy
    exact UInt8.toNat_inj.1 (Int.ofNat.inj hxy)
  cases a; cases b; simp_all
theorem bs_extract (a : ByteArray) (i j : Nat) : bytesOf (a.extract i j) = ((bytesOf a).take j).drop i := by
  simp [bytesOf, List.map_drop, List.map_take, ByteArray.data_extract, Array.toList_extract, List.drop_take]
theorem bs_size (s : ByteArray) : s.size = (bytesOf s).length := (bytesOf_length s).symm
theorem bs_rd (s : ByteArray) (i : Int) : bt s i = (bytesOf s).getD i.toNat 0 := (rd_bytesOf s i).symm
theorem bs_range (s : ByteArray) : ∀ x ∈ bytesOf s, 0 ≤ x ∧ x < 256 := by
  intro x hx
  unfold bytesOf at hx
  obtain ⟨u, _, rfl⟩ := List.mem_map.1 hx
  have := u.toNat_lt
  omega
theorem toList_inj (a b : ByteArray) : a.toList = b.toList ↔ bytesOf a = bytesOf b := by
  constructor
  · intro h
    rw [ByteArray.toList_eq, ByteArray.toList_eq] at h
    unfold bytesOf; rw [h]
  · intro h
    rw [bs_inj h]
theorem wrap_id {x : Int} (h1 : -9223372036854775808 ≤ x) (h2 : x < 9223372036854775808) : wrap64 x = x := by
  unfold wrap64; omega
end Go.Proofs.YtofagdjijpjlgaaDoor.X
