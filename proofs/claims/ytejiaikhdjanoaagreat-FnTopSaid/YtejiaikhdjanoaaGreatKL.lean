/- Contracts of functions of Go's library, laid out of the kit's shelf by its tools (lay-shelf.mjs, lay-plain.mjs). -/
import Derived.Shelf.Slices.In.SortNone
import Derived.Shelf.Sort.Plain
import Derived.Test.YtejiaikhdjanoaaGreatProg
import Derived.Test.YtejiaikhdjanoaaGreatK3
namespace Go.Proofs
open Go.Shelf
def Tryz.lays189_ren : Go.Shelf.Ren := ⟨fun | 189 => 78 | 125 => 118 | 257 => 117 | 128 => 142 | 129 => 143 | 294 => 133 | 295 => 134 | 296 => 135 | 297 => 136 | 298 => 137 | 299 => 138 | 216 => 139 | 300 => 140 | 301 => 141 | 328 => 152 | 329 => 153 | 330 => 154 | 331 => 155 | 332 => 156 | 215 => 151 | 343 => 159 | n => n, fun | 28 => 26 | 3 => 3 | 46 => 152 | 0 => 0 | 51 => 173 | 53 => 111 | 4 => 4 | 183 => 167 | 182 => 166 | 131 => 48 | 5 => 5 | 9 => 9 | 218 => 182 | 222 => 186 | 228 => 188 | 229 => 189 | n => n, fun | n => n⟩
theorem Tryz.lays189 : Go.Proofs.Lays.n189 Tryz.prog Tryz.lays189_ren := {
  mixed := by kernel_rfl
  f125 := Tryz.func118.trans (congrArg some (by kernel_rfl))
  f128 := Tryz.func142.trans (congrArg some (by kernel_rfl))
  f129 := Tryz.func143.trans (congrArg some (by kernel_rfl))
  f189 := Tryz.func78.trans (congrArg some (by kernel_rfl))
  f215 := Tryz.func151.trans (congrArg some (by kernel_rfl))
  f216 := Tryz.func139.trans (congrArg some (by kernel_rfl))
  f257 := Tryz.func117.trans (congrArg some (by kernel_rfl))
  f294 := Tryz.func133.trans (congrArg some (by kernel_rfl))
  f295 := Tryz.func134.trans (congrArg some (by kernel_rfl))
  f296 := Tryz.func135.trans (congrArg some (by kernel_rfl))
  f297 := Tryz.func136.trans (congrArg some (by kernel_rfl))
  f298 := Tryz.func137.trans (congrArg some (by kernel_rfl))
  f299 := Tryz.func138.trans (congrArg some (by kernel_rfl))
  f300 := Tryz.func140.trans (congrArg some (by kernel_rfl))
  f301 := Tryz.func141.trans (congrArg some (by kernel_rfl))
  f328 := Tryz.func152.trans (congrArg some (by kernel_rfl))
  f329 := Tryz.func153.trans (congrArg some (by kernel_rfl))
  f330 := Tryz.func154.trans (congrArg some (by kernel_rfl))
  f331 := Tryz.func155.trans (congrArg some (by kernel_rfl))
  f332 := Tryz.func156.trans (congrArg some (by kernel_rfl))
  f343 := Tryz.func159.trans (congrArg some (by kernel_rfl))
  t0 := Tryz.underlying0
  a0 := Tryz.isAgg0
  z0 := Tryz.sizeOf0
  v0 := Tryz.zeroValue0
  t3 := Tryz.underlying3
  a3 := Tryz.isAgg3
  z3 := Tryz.sizeOf3
  v3 := Tryz.zeroValue3
  t4 := Tryz.underlying4
  a4 := Tryz.isAgg4
  z4 := Tryz.sizeOf4
  v4 := Tryz.zeroValue4
  t5 := Tryz.underlying5
  a5 := Tryz.isAgg5
  z5 := Tryz.sizeOf5
  v5 := Tryz.zeroValue5
  t9 := Tryz.underlying9
  a9 := Tryz.isAgg9
  z9 := Tryz.sizeOf9
  v9 := Tryz.zeroValue9
  t28 := Tryz.underlying26
  a28 := Tryz.isAgg26
  z28 := Tryz.sizeOf26
  v28 := Tryz.zeroValue26
  t46 := Tryz.underlying152
  a46 := Tryz.isAgg152
  z46 := Tryz.sizeOf152
  v46 := Tryz.zeroValue152
  t51 := Tryz.underlying173
  a51 := Tryz.isAgg173
  z51 := Tryz.sizeOf173
  v51 := Tryz.zeroValue173
  t53 := Tryz.underlying111
  a53 := Tryz.isAgg111
  z53 := Tryz.sizeOf111
  v53 := Tryz.zeroValue111
  t131 := Tryz.underlying48
  a131 := Tryz.isAgg48
  z131 := Tryz.sizeOf48
  v131 := Tryz.zeroValue48
  t182 := Tryz.underlying166
  a182 := Tryz.isAgg166
  z182 := Tryz.sizeOf166
  v182 := Tryz.zeroValue166
  t183 := Tryz.underlying167
  a183 := Tryz.isAgg167
  z183 := Tryz.sizeOf167
  v183 := Tryz.zeroValue167
  t218 := Tryz.underlying182
  a218 := Tryz.isAgg182
  z218 := Tryz.sizeOf182
  v218 := Tryz.zeroValue182
  t222 := Tryz.underlying186
  a222 := Tryz.isAgg186
  z222 := Tryz.sizeOf186
  v222 := Tryz.zeroValue186
  t228 := Tryz.underlying188
  a228 := Tryz.isAgg188
  z228 := Tryz.sizeOf188
  v228 := Tryz.zeroValue188
  t229 := Tryz.underlying189
  a229 := Tryz.isAgg189
  z229 := Tryz.sizeOf189
  v229 := Tryz.zeroValue189 }
open Go.Sort Go.RowKit in
theorem Tryz.slices_Sort_int (blk off cap : Nat) (zs : List Int) (w : World) (hH : Holds (Value.int .i64) w blk off zs.toArray) (hblk : blk < w.heap.size) (hsz : zs.length < 4611686018427387904) :
    Calls Tryz.prog 78 #[.slice (some ⟨blk, off, none⟩) zs.length cap] w fun e w' =>
      e = .returned (.tuple #[]) ∧ ∃ n os, w' = grow (putRow (Value.int .i64) (Sort.ahead w n) blk off (zs.mergeSort fun x y => decide (x ≤ y)).toArray) os := Any.slices_Sort_int Tryz.lays189 blk off cap zs w hH hblk hsz
open Go.RowKit Go.Sort in
/-- .. and plain. (LAID: no walk: one application.) -/
theorem Tryz.slices_Sort_int_none (p : Option Addr) (cap : Nat) (w : World) :
    Calls Tryz.prog 78 #[.slice p 0 cap] w fun e w' => e = .returned (.tuple #[]) ∧ w' = w := Any.slices_Sort_int_none Tryz.lays189 p cap w
end Go.Proofs
namespace Go.OAI
open Go.Proofs Go.Sort
set_option linter.unusedVariables false
def lib_Sort (l : List Int) : Option (List Int) := cond (decide (l.length ≤ 1000000)) (some (l.mergeSort fun x y => decide (x ≤ y))) none
def c78 : Callee := mkC [.one (.sl (.int .i64))] 0 [.one (.sl (.int .i64))] fun x => lib_Sort x
theorem k78c : CalleeOk Tryz.prog 78 c78 := by
  intro w R Io F vs us ds (x : List Int) (y : List Int) hlen hgl hgb hals hF hIo hR hinn hG
  obtain rfl : us = [] := List.eq_nil_of_length_eq_zero hgl
  have hc : ∀ gw, Conv gw w R ds [.osl (.int .i64) x] := fun gw => PK.inns_canon (ps := [.one (.sl (.int .i64))]) hinn
  obtain ⟨o1, o2⟩ := (hc (gnil w)).own (vs := vs ++ [])
  have hals := (hc _).als hals
  rw [List.append_nil] at hals hlen o1
  obtain ⟨v, rfl⟩ : ∃ v, vs = [v] := List.length_eq_one_iff.1 (by rw [hlen, o2]; rfl)
  have o1 : ownVals ds [v] = [v] := o1
  obtain ⟨Ss, g1, g2, g3⟩ := hals
  obtain ⟨Sp, e1, hS, hSs⟩ : CT w R v (Ss 0) (.osl (.int .i64) x) := g1 0 (v, .osl (.int .i64) x) rfl
  obtain ⟨s1, s2, s3⟩ := hS
  have hG : lib_Sort x = some y := hG
  unfold lib_Sort at hG
  cases hb : decide (x.length ≤ 1000000) with
  | false => rw [hb] at hG; cases hG
  | true =>
    rw [hb] at hG
    have hy : y = x.mergeSort fun x y => decide (x ≤ y) := (Option.some.inj hG).symm
    simp only [decide_eq_true_eq] at hb
    have hyl : y.length = x.length := by rw [hy]; exact List.length_mergeSort x
    have fin : ∀ w' : World, SlOwn w' R (.int .i64) Sp y → (∀ b, b < w.heap.size → ¬ Io b → w'.heap[b]? = w.heap[b]?) → w.heap.size ≤ w'.heap.size → Quiet w w' →
        ∃ rs : List (Value × AVal), Ending.returned (.tuple #[]) = Ending.returned (tupV (rs.map (·.1))) ∧ rs.map (·.2) = resList (c78.out y).1 ∧ tupOf (rs.map (·.2)) = (c78.out y).1 ∧
      (ownVals ds ([v] ++ [])).length = (c78.out y).2.length ∧ ∃ R', ALs (gnil w) w' R' (rs ++ (ownVals ds ([v] ++ [])).zip (c78.out y).2) (fun b => b < w'.heap.size ∧ ¬ R' b ∧ (Io b ∨ w.heap.size ≤ b)) ∧
      (∀ b, R b → R' b) ∧ (∀ b, R' b → b < w'.heap.size ∧ (R b ∨ (Io b ∨ w.heap.size ≤ b))) ∧ (∀ b, b < w.heap.size → ¬ Io b → w'.heap[b]? = w.heap[b]?) ∧ w.heap.size ≤ w'.heap.size ∧ Quiet w w' := by
      intro w' h1 h2 h3 h4
      rw [List.append_nil, o1]
      refine ⟨[], rfl, rfl, rfl, rfl, R, ?_, fun _ h => h, fun b hb => ⟨Nat.lt_of_lt_of_le (hR b hb) h3, .inl hb⟩, h2, h3, h4⟩
      refine ⟨Ss, fun i p hp => ?_, g2, fun i b hb => ?_⟩
      · cases i with
        | succ i => simp [c78, mkC, PK.outs] at hp
        | zero =>
          have hp : (v, AVal.osl (.int .i64) y) = p := Option.some.inj hp
          subst hp
          exact ⟨Sp, by rw [e1, hyl], h1, hSs⟩
      · have q := g3 i b hb
        obtain ⟨q1, q2⟩ := hIo b q
        exact ⟨by omega, q2, .inl q⟩
    by_cases hx : x = []
    · subst hx
      have hy : y = [] := List.eq_nil_of_length_eq_zero hyl
      subst hy
      have e1 : v = .slice Sp.A 0 Sp.cap := e1
      subst e1
      exact (Tryz.slices_Sort_int_none Sp.A Sp.cap w).mono fun e w' ⟨he, hw⟩ => by
        subst he; rw [hw]
        exact fin w ⟨s1, s2, s3⟩ (fun _ _ _ => rfl) (Nat.le_refl _) ⟨rfl, rfl⟩
    · have hxl : x.length ≠ 0 := fun h => hx (List.eq_nil_of_length_eq_zero h)
      have hcap : Sp.cap ≠ 0 := by omega
      obtain ⟨b, off, arr, E, hA, hh, ha, hel⟩ := s3 hcap
      have hbl : b < w.heap.size := by
        rcases Nat.lt_or_ge b w.heap.size with h | h
        · exact h
        · rw [Array.getElem?_eq_none h] at hh; cases hh
      have hIb : Io b := g3 0 b (hSs b ⟨hcap, off, hA⟩)
      subst e1
      rw [hA]
      have ha : off + Sp.cap * 1 ≤ arr.size := ha
      have hcell : ∀ i (hi : i < x.length), arr[off + i]? = some (.int .i64 x[i]) := fun i hi => by
        obtain ⟨us, hu, hc⟩ := hel i x[i] (List.getElem?_eq_getElem hi)
        have hu : us = [.int .i64 x[i]] := hu
        subst hu
        have := hc 0 _ rfl
        simpa [Ty.cells] using this
      have hH : Holds (Value.int .i64) w b off x.toArray := fun j hj => by
        have hj : j < x.length := by simpa using hj
        have := hcell j hj
        refine ⟨?_, ?_⟩
        · simp only [World.cell?, hh]
          simpa [hj, getElem!_pos] using this
        · simp [World.frozen?, hh]
      refine (Tryz.slices_Sort_int b off Sp.cap x w hH hbl (by omega)).mono fun e w' ⟨he, n, os, hw⟩ => ?_
      subst he
      rw [← hA]
      have hsz : w'.heap.size = w.heap.size + os.size := by rw [hw]; simp
      have hoth : ∀ b', b' < w.heap.size → w'.heap[b']? = (w.heap.modify b (onCells (putCells (Value.int .i64) off (x.mergeSort fun x y => decide (x ≤ y)).toArray)))[b']? := fun b' hb' => by
        rw [hw]
        show ((w.heap.modify b _) ++ os)[b']? = _
        rw [Array.getElem?_append_left (by simpa using hb')]
      refine fin w' ⟨s1, by omega, fun _ => ⟨b, off, putCells (Value.int .i64) off y.toArray arr, E, hA, ?_, ?_, ?_⟩⟩ (fun b' hb' hn => ?_) (by omega) (by rw [hw]; exact ⟨rfl, rfl⟩)
      · rw [hoth b hbl, Array.getElem?_modify, if_pos rfl, hh, hy]; rfl
      · show off + Sp.cap * 1 ≤ _
        simpa [putCells] using ha
      · intro i z hz
        have hi : i < y.length := (List.getElem?_eq_some_iff.1 hz).1
        refine ⟨[.int .i64 z], rfl, fun c u hu => ?_⟩
        cases c with
        | succ c => simp at hu
        | zero =>
          have hu : Value.int .i64 z = u := by simpa using hu
          subst hu
          show (putCells (Value.int .i64) off y.toArray arr)[off + (i * 1 + 0)]? = _
          have h0 := hcell i (by omega)
          simp only [Nat.mul_one, Nat.add_zero, putCells, Array.getElem?_mapIdx, h0, Option.map_some]
          have hz2 : y[i] = z := (List.getElem?_eq_some_iff.1 hz).2
          rw [if_pos ⟨by omega, by simp; omega⟩]
          simp [hi, hz2, getElem!_pos]
      · rw [hoth b' hb', Array.getElem?_modify, if_neg (fun h => hn (by rw [← h]; exact hIb))]
theorem k78 : Cal Tryz.prog 78 c78 := ⟨⟨_, _, Tryz.func78, rfl, by kernel_rfl⟩, k78c⟩
end Go.OAI
