/- CmdsLong returns true at every input. Conditions: as the statement's own. -/
import Derived.Test.YtgjnmfmbheejoaaGreatDoorCmBy
namespace Go.Proofs.YtgjnmfmbheejoaaGreatDoor
open Go.RowKit Go.Shelf

def inC (d : ByteArray) : Cv := ⟨4, 0, 0, 0, 0, 0, ⟨#[]⟩, 0, 1, ⟨#[]⟩, ⟨#[]⟩, 0, zeroD, zeroI, 0, d⟩
def resC (d : ByteArray) : Cv := ⟨15, 0, 0, 0, 0, 0, ⟨#[]⟩, 0, 0, ⟨#[]⟩, ⟨#[]⟩, 0, zeroD, ⟨1, 0, 1, 0, false, 1⟩, 0, d⟩
theorem okR_00 : okR ⟨#[]⟩ ⟨#[]⟩ = true := by
  unfold okR
  rw [okS_nil, ByteArray.toList_eq]
  rfl
theorem uvB_len3 {n : Nat} (h : 16384 ≤ n) (h2 : n < 2097152) : (uvB n).length = 3 := by
  rw [uvB_ge (by omega), uvB_ge (by omega), uvB_lt (by omega)]
  rfl
theorem txB_len3 {d : ByteArray} (h : 16384 ≤ d.size) (h2 : d.size < 2097152) : (txB d.data.toList).length = 3 + d.size := by
  unfold txB
  rw [List.length_append, uvB_len3 (by rw [data_len]; exact h) (by rw [data_len]; exact h2), data_len]
theorem inC_ok (d : ByteArray) : cmdOk (inC d) ↔ d.size ≤ 65536 := by
  refine ⟨fun ⟨l, h1, h2, _⟩ => ?_, fun h => ⟨[.mv, .rng, .data], rfl, fun x hx => ?_, rfl⟩⟩
  · have e : fieldsK 4 = some [.mv, .rng, .data] := rfl
    have h1' : fieldsK 4 = some l := h1
    rw [e] at h1'
    cases h1'
    exact h2 .data (by simp)
  · simp only [List.mem_cons, List.not_mem_nil, or_false] at hx
    rcases hx with rfl | rfl | rfl
    · exact ⟨by dsimp only [inC]; decide, by dsimp only [inC]; decide⟩
    · exact okR_00
    · exact h
theorem resC_ok (d : ByteArray) : cmdOk (resC d) ↔ d.size ≤ 65536 := by
  refine ⟨fun ⟨l, h1, h2, _⟩ => ?_, fun h => ⟨[.item, .res, .data], rfl, fun x hx => ?_, rfl⟩⟩
  · have e : fieldsK 15 = some [.item, .res, .data] := rfl
    have h1' : fieldsK 15 = some l := h1
    rw [e] at h1'
    cases h1'
    exact h2 .data (by simp)
  · simp only [List.mem_cons, List.not_mem_nil, or_false] at hx
    rcases hx with rfl | rfl | rfl
    · exact ⟨⟨by dsimp only [resC]; decide, by dsimp only [resC]; decide⟩, Or.inl ⟨rfl, rfl, by dsimp only [resC]; decide, by dsimp only [resC]; decide, by dsimp only [resC]; decide, by dsimp only [resC]; decide, by dsimp only [resC]; decide, by dsimp only [resC]; decide⟩⟩
    · exact ⟨by dsimp only [resC]; decide, by dsimp only [resC]; decide⟩
    · exact h
theorem inC_len {d : ByteArray} (h : 16384 ≤ d.size) (h2 : d.size < 2097152) : (bytesC (inC d)).length = 7 + d.size := by
  have e : bytesC (inC d) = uvB 4 ++ (uvB 1 ++ ((txB [] ++ txB []) ++ (txB d.data.toList ++ []))) := rfl
  have e4 : (uvB 4).length = 1 := by rw [uvB_lt (by decide)]; rfl
  have e1 : (uvB 1).length = 1 := by rw [uvB_lt (by decide)]; rfl
  have e0 : (txB []).length = 1 := by unfold txB; rw [uvB_lt (by decide)]; rfl
  rw [e]
  simp only [List.length_append, e4, e1, e0, txB_len3 h h2, List.length_nil]
  omega
theorem resC_len {d : ByteArray} (h : 16384 ≤ d.size) (h2 : d.size < 2097152) : (bytesC (resC d)).length = 6 + d.size := by
  have e : bytesC (resC d) = uvB 15 ++ (uvB 1 ++ (uvB 0 ++ (txB d.data.toList ++ []))) := rfl
  have e4 : (uvB 15).length = 1 := by rw [uvB_lt (by decide)]; rfl
  have e1 : (uvB 1).length = 1 := by rw [uvB_lt (by decide)]; rfl
  have e0 : (uvB 0).length = 1 := by rw [uvB_lt (by decide)]; rfl
  rw [e]
  simp only [List.length_append, e4, e1, e0, txB_len3 h h2, List.length_nil]
  omega
theorem repL_len {d : ByteArray} (h : 16384 ≤ d.size) (h2 : d.size < 2097152) : (bytesR ⟨0, 0, d⟩).length = 5 + d.size := by
  have e : bytesR ⟨0, 0, d⟩ = uvB 0 ++ (uvB 0 ++ txB d.data.toList) := rfl
  have e0 : (uvB 0).length = 1 := by rw [uvB_lt (by decide)]; rfl
  rw [e]
  simp only [List.length_append, e0, txB_len3 h h2]
  omega
/-- What is wanted of bytes that are k longer than they may be, of a text of s bytes and k. -/
def wantK (k s : Int) : Int := if 65536 < s + k then 2 else if 0 < k then 11 else 0
def lenK (k : Int) : Nat := if 0 < k then 0 else (65536 + k).toNat
theorem enc_want {c : Cv} {k s : Int} (hk : -8 ≤ k) (ho : cmdOk c ↔ s + k ≤ 65536) (hl : ((bytesC c).length : Int) = 65536 + k) (hs : k ≤ 0 → s + k ≤ 65536) : encEC c = wantK k s ∧ (encBC c).length = lenK k := by
  unfold wantK lenK
  by_cases h1 : 65536 < s + k
  · have := encBC_no (fun h => by have := ho.1 h; omega : ¬ cmdOk c)
    rw [if_pos h1, if_pos (by omega), this.1, this.2]
    exact ⟨rfl, rfl⟩
  · rw [if_neg h1]
    have hok := ho.2 (by omega)
    by_cases h2 : 0 < k
    · have := encBC_long hok (by omega)
      rw [if_pos h2, if_pos h2, this.1, this.2]
      exact ⟨rfl, rfl⟩
    · have := encBC_yes hok (by omega)
      rw [if_neg h2, if_neg h2, this.1, this.2]
      exact ⟨rfl, by omega⟩
theorem rep_want {r : Rv} {k s : Int} (hk : -8 ≤ k) (ho : repOk r ↔ s + k ≤ 65536) (hl : ((bytesR r).length : Int) = 65536 + k) (hs : k ≤ 0 → s + k ≤ 65536) : repE r = wantK k s ∧ (repB r).length = lenK k := by
  unfold wantK lenK repE repB
  by_cases h1 : 65536 < s + k
  · have h0 : ¬ repOk r := fun h => by have := ho.1 h; omega
    rw [if_pos h1, if_pos (show 0 < k by omega), if_neg h0, if_neg (fun e => h0 e.1)]
    exact ⟨rfl, rfl⟩
  · rw [if_neg h1]
    have hok := ho.2 (by omega)
    by_cases h2 : 0 < k
    · rw [if_pos h2, if_pos h2, if_pos hok, if_neg (show ¬ (bytesR r).length ≤ 65536 by omega), if_neg (fun e => by have := e.2; omega)]
      exact ⟨rfl, rfl⟩
    · rw [if_neg h2, if_neg h2, if_pos hok, if_pos (show (bytesR r).length ≤ 65536 by omega), if_pos ⟨hok, by omega⟩]
      exact ⟨rfl, by omega⟩
theorem want_any (k s : Int) (X : Nat) (w : World) (hk0 : -8 ≤ k) (hk1 : k ≤ 7) (hs0 : 0 ≤ s) (hs1 : s ≤ 100000) (hx : w.cell? ⟨X, 0, none⟩ = some (.int .i64 k)) :
    Calls Tryz.prog 40 #[.int .i64 s, .pointer (some ⟨X, 0, none⟩)] w fun e w' => e = .returned (.int .i64 (wantK k s)) ∧ w = w' := by
  have hw : IntKind.i64.wrap (s + k) = s + k := IntWalk.i64_in _ (by omega)
  have HV : Hid (wantK k s = if 65536 < s + k then 2 else if 0 < k then 11 else 0) := Lib.hid rfl
  generalize wantK k s = q at HV ⊢
  by_cases h1 : 65536 < s + k
  · have HQ : Hid (q = 2) := Lib.hid (HV.out.trans (if_pos h1))
    go_enter Tryz.func40, Tryz.ntmps40
    go_wp2
    go_ret
    exact ⟨by rw [HQ.out]; rfl, rfl⟩
  · by_cases h2 : 0 < k
    · have HQ : Hid (q = 11) := Lib.hid (HV.out.trans ((if_neg h1).trans (if_pos h2)))
      go_enter Tryz.func40, Tryz.ntmps40
      go_wp2
      go_ret
      exact ⟨by rw [HQ.out]; rfl, rfl⟩
    · have HQ : Hid (q = 0) := Lib.hid (HV.out.trans ((if_neg h1).trans (if_neg h2)))
      go_enter Tryz.func40, Tryz.ntmps40
      go_wp2
      go_ret
      exact ⟨by rw [HQ.out]; rfl, rfl⟩
end Go.Proofs.YtgjnmfmbheejoaaGreatDoor
