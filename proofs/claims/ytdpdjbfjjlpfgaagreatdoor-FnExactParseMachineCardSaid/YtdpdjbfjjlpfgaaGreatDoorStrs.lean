/- Strings as keys, and strings made of bytes. No condition. -/
import Derived.Test.YtdpdjbfjjlpfgaaGreatDoorMaps
import Derived.Test.YtdpdjbfjjlpfgaaGreatDoorMore
import Derived.Test.YtdpdjbfjjlpfgaaGreatDoorBfs
import Derived.Laws.BytesArg
import Derived.Maps.Keyed
namespace Go.Proofs.YtdpdjbfjjlpfgaaGreatDoor
open Go Go.RowKit

abbrev VU (n : Int) : Value := .int .u8 n
section
variable {P : Program} {L : Env} {ty T T' E K : TypeId} {w : World} {x y : Operand} {m k : Int}
theorem wrap_b {m : Int} (h : 0 ≤ m ∧ m ≤ 255) : IntKind.u8.wrap m = m := by rw [IntKind.wrap_u8]; omega
theorem ev_convBS {b o n c : Nat} {xs : List Int} (hs : P.underlying T = some (.slice E)) (he : P.underlying E = some (.int .u8)) (hd : P.underlying T' = some .string) (hx : ev L x = some (.slice (some ⟨b, o, none⟩) n c)) (hl : xs.length = n)
    (hc : ∀ i, i < n → w.cell? ⟨b, o + i, none⟩ = some (VU (xs.getD i 0))) : EvR P L (.convert T T' x) ty w (.string (strOfNums xs)) := by
  intro ρ hρ d p f g
  have hr := run_convert_bytes_arg (P := P) w T E hs he b o n c xs hl hc T' hd
  simp [execOp, hρ x _ hx, hr]
theorem goodK_str (hu : P.underlying K = some .string) {s : ByteArray} (h : s.size ≤ maxLen) : GoodK P K (.string s) := by
  refine ⟨.string s.data.toList, ?_⟩
  unfold keyOf
  simp only [hu]
  simp [mapKey, hu, h]
theorem ucell {b i : Nat} {T0 : TypeId} {xs : List Int} (hB : Blk w b T0 (xs.map VU)) (hi : i < xs.length) : w.cell? ⟨b, 0 + i, none⟩ = some (VU (xs.getD i 0)) := by
  rw [Nat.zero_add]
  refine hB.cell ?_
  rw [List.getElem?_map, List.getElem?_eq_getElem hi, getD_eq hi]
  rfl
end
theorem str_inj : ∀ x y : ByteArray, Value.string x = Value.string y → x = y := fun x y h => by cases h; rfl
theorem u8_inj {m k : Int} (hm : 0 ≤ m ∧ m ≤ 255) (hk : 0 ≤ k ∧ k ≤ 255) (h : UInt8.ofNat m.toNat = UInt8.ofNat k.toNat) : m = k := by
  have h1 := congrArg UInt8.toNat h
  simp only [UInt8.toNat_ofNat'] at h1
  omega
theorem strOfNums_inj {xs ys : List Int} (hx : ∀ x ∈ xs, 0 ≤ x ∧ x ≤ 255) (hy : ∀ x ∈ ys, 0 ≤ x ∧ x ≤ 255) (h : strOfNums xs = strOfNums ys) : xs = ys := by
  have h1 : xs.map (fun n => UInt8.ofNat n.toNat) = ys.map (fun n => UInt8.ofNat n.toNat) := by
    have := congrArg (fun s : ByteArray => s.data.toList) h
    simpa [strOfNums_data] using this
  have hl : xs.length = ys.length := by simpa using congrArg List.length h1
  refine List.ext_getElem hl fun i h2 h3 => ?_
  have h4 : (xs.map (fun n => UInt8.ofNat n.toNat))[i]'(by simpa using h2) = (ys.map (fun n => UInt8.ofNat n.toNat))[i]'(by simpa using h3) := by simp only [h1]
  simp only [List.getElem_map] at h4
  exact u8_inj (hx _ (List.getElem_mem h2)) (hy _ (List.getElem_mem h3)) h4
/-- The first i elements as bytes, and zeros. -/
def fillU (L : List Int) (i : Nat) : List Int := L.take i ++ List.replicate (L.length - i) 0
theorem fillU_len {L : List Int} {i : Nat} (h : i ≤ L.length) : (fillU L i).length = L.length := by simp [fillU]; omega
theorem fillU_zero (L : List Int) : fillU L 0 = List.replicate L.length 0 := by simp [fillU]
theorem fillU_full {L : List Int} {i : Nat} (h : L.length ≤ i) : fillU L i = L := by simp [fillU, List.take_of_length_le h, Nat.sub_eq_zero_of_le h]
theorem fillU_put {L : List Int} {i j : Nat} {w : World} {b : Nat} {T : TypeId} (h : i < L.length) (hj : j = i) (hB : Blk w b T (((fillU L i).map VU).set j (VU L[i]))) : Blk w b T ((fillU L (i + 1)).map VU) := by
  subst hj
  have e : (fillU L j).set j L[j] = fillU L (j + 1) := by
    unfold fillU
    rw [List.set_append_right _ _ (by simp; omega), show j - (L.take j).length = 0 by simp; omega, show L.length - j = (L.length - (j + 1)) + 1 by omega, List.replicate_succ, List.set_cons_zero, ← List.take_append_getElem h, List.append_assoc]
    rfl
  rw [← e, List.map_set]; exact hB
end Go.Proofs.YtdpdjbfjjlpfgaaGreatDoor
