/-
  More rules: shifts and bits, strings out of bytes, append of a string and of zeros, slices of structs, full slice expressions.
-/
import Derived.Test.YtfjajkgfgigodaaGreatDoorVcMem3
import Derived.Lib.AppendStr
namespace Go.Proofs.YtfjajkgfgigodaaGreatDoor
open Go

/-- A byte type, as the append of a string wants it. -/
def U8I (P : Program) (e : TypeId) : Prop := (P.info? e).map (fun i => (i.zero, i.size, i.bytes)) = some (some (.int .u8 0), 1, 1)

section
variable {P : Program} {ty : TypeId} {s : List Value} {h0 : Base} {h : Heap} {L : List Item} {K : KK} {Q : QQ} {pr : Bool}

/- SHIFTS, BITS -/
theorem fdiv_pow (a : Int) (n : Nat) : a.fdiv (2 ^ n) = a / 2 ^ n := Int.fdiv_eq_ediv_of_nonneg a (Int.pow_nonneg (by decide))

theorem StillVC.shr {t t' : TypeId} {x y : Operand} {k k' : IntKind} {a b : Int} (hx : ev s x = .int k a) (hy : ev s y = .int k' b) (hb : 0 ≤ b) (hk : K (.int k (a / 2 ^ (min b.toNat k.bits))) false h) : StillVC pr P (.binOp .shr t x y t') ty s h K :=
  .pure' _ false (fun w => by
    have : ¬ b < 0 := by omega
    simp [execOp, hx, hy, eqGuard, binOp, Op.shift, this, fdiv_pow]) hk

theorem StillVC.shl {t t' : TypeId} {x y : Operand} {k k' : IntKind} {a b : Int} (hx : ev s x = .int k a) (hy : ev s y = .int k' b) (hb : 0 ≤ b) (hk : Ar k (a * 2 ^ (min b.toNat k.bits)) fun v => K v false h) : StillVC pr P (.binOp .shl t x y t') ty s h K :=
  .pure' (.int k (k.wrap (a * 2 ^ (min b.toNat k.bits)))) false (fun w => by
    have : ¬ b < 0 := by omega
    simp [execOp, hx, hy, eqGuard, binOp, Op.shift, this]) hk.h

theorem StillVC.bit {op : BinOp} {t t' : TypeId} {x y : Operand} {k : IntKind} {a b : Int} (hop : (match op with | .and => true | .or => true | .xor => true | .andNot => true | _ => false) = true) (hx : ev s x = .int k a) (hy : ev s y = .int k b)
    (hk : K (.int k (bits op k a b)) false h) : StillVC pr P (.binOp op t x y t') ty s h K :=
  .pure' _ false (fun w => by
    cases op <;> simp at hop <;> simp [execOp, hx, hy, eqGuard, binOp_and, binOp_or, binOp_xor, binOp_andNot, intBits_and, intBits_or, intBits_xor, intBits_andNot]) hk

/- STRINGS OUT OF BYTES -/
theorem strOfNums_bytes (l : List UInt8) : (l.map fun b => (b.toNat : Int)).map (fun n => UInt8.ofNat n.toNat) = l := by
  induction l with
  | nil => rfl
  | cons b l ih => simp only [List.map_cons, ih]; congr 1; simp

theorem StillVC.bytesStr {src dst e : TypeId} {x : Operand} {l : List UInt8} (hA : Arr h (ev s x) (bytes l)) (hs : SliceT P src e) (he : P.underlying e = some (.int .u8)) (hd : P.underlying dst = some .string) (hk : K (.string ⟨⟨l⟩⟩) false h) :
    StillVC false P (.convert src dst x) ty s h K := by
  obtain ⟨a, cap, hv, hcl, r⟩ := hA
  rcases r with hn | ⟨b, o, rfl, hc⟩
  · have hl : l = [] := by simpa using hn
    subst hl
    refine ⟨.string ⟨⟨[]⟩⟩, false, [], by simp, by simp, fun w _ => ?_, hk⟩
    cases a with
    | none => simp [execOp, hv, run_convert_bytes_nil w src e hs he _ _ dst hd]; rfl
    | some a =>
      simp only [execOp, hv, List.map_nil, List.length_nil, Sem.run_bind]
      rw [run_convert_bytes_string w src dst e _ 0 cap hs he hd, run_bytesToString w _ 0 cap [] (by simp [loadCells, loadCellsFrom])]
      rfl
  · refine ⟨.string ⟨⟨l⟩⟩, false, (List.range l.length).map (fun j => (⟨b, o + j, none⟩, (bytes l).getD j undef)), by simp, ?_, fun w hw => ?_, hk⟩
    · intro q hq
      obtain ⟨j, hj, rfl⟩ := List.mem_map.1 hq
      have hj' : j < l.length := by simpa using hj
      simp only
      rw [hc j (by simpa using hj')]; simp [hj']
    · have hr := run_convert_bytes_arg w src e hs he b o l.length cap (l.map fun b => (b.toNat : Int)) (by simp) (fun i hi => by
        have := hw (⟨b, o + i, none⟩, (bytes l).getD i undef) (List.mem_map.2 ⟨i, by simpa using hi, rfl⟩)
        simp only at this
        rw [this]
        simp [hi]) dst hd
      have e2 : strOfNums (l.map fun b => (b.toNat : Int)) = ⟨⟨l⟩⟩ := by
        simp only [strOfNums]
        rw [strOfNums_bytes]
      simp only [List.length_map] at hv
      simp [execOp, hv, hr, e2]

/- append of a string -/
theorem RunVC.appendS {t u e : TypeId} {x y : Operand} {n : Nat} {xs : List Value} {l : List UInt8} (o : Own h0 L h) (k : Nat) (hk : L[k]? = some (row (ev s x) e 1 n xs))
    (hS : SliceT P t e) (hU : P.underlying u = some .string) (hE : U8I P e) (hy : ev s y = .string ⟨⟨l⟩⟩) (h63 : n + l.length ≤ maxLen) (hb : n + l.length ≤ 140737488355328)
    (hK : ∀ v' h', lsetK L k (row v' e 1 (n + l.length) (xs ++ bytes l)) fun L' => Own h0 L' h' → K v' false h') : RunVC P (.call ⟨.builtin .append, ⟨[x, y]⟩, ⟨[t, u]⟩⟩) ty s h K Q :=
  .of fun w hw => by
    subst hw
    obtain ⟨i, hi, hi2⟩ := Option.map_eq_some_iff.1 hE
    simp only [Prod.mk.injEq] at hi2
    obtain ⟨hz, hs1, hby⟩ := hi2
    have hrow : rowH w.heap e 1 (ev s x) n xs := o.sat _ (List.mem_of_getElem? hk)
    have hsz : (⟨⟨l⟩⟩ : ByteArray).size = l.length := rfl
    obtain ⟨v', w', hr, hown, hg, hnil⟩ := Lib.run_append_own_string (P := P) w 0 t u ty e i hS hU hi hz hs1 hby (ev s x) n xs (rowH_owns hrow) ⟨⟨l⟩⟩ (by rw [hsz]; exact h63) (by rw [hsz]; exact hb) (Nat.zero_le _)
    rw [hsz] at hown
    have hcells : Lib.strCells ⟨⟨l⟩⟩ = bytes l := by simp [Lib.strCells]
    rw [hcells] at hown
    have hfp : ∀ b, v'.ownBlock = some b → (ev s x).ownBlock = some b ∨ w.heap.size ≤ b := by
      intro b' hb'
      rcases hrow.2 with ⟨hx, hn0⟩ | ⟨g, cap, cur, hx, hgg, hnc, hcm, hcs, ht⟩
      · subst hn0
        by_cases hl : l.length = 0
        · have := hnil.2 ⟨hx, by rw [hsz]; exact hl⟩
          rw [this] at hb'; simp [Value.ownBlock] at hb'
        · have hr2 := run_append_nil_string (P := P) w t u ty e i _ hS hU hi hz ⟨⟨l⟩⟩ (by rw [hsz]; omega) (by rw [hsz]; simp only [maxLen] at h63; omega) (by rw [hsz, hby]; omega)
          rw [hx, hr2] at hr
          injection hr with e1 e2
          subst e1
          simp [Value.ownBlock] at hb'
          right; omega
      · by_cases hroom : n + l.length ≤ cap
        · have hr2 := Lib.run_append_room_string (P := P) w t u ty e i hS hU hi hs1 g n cap cur hgg ⟨⟨l⟩⟩ (by rw [hsz]; exact hroom) (by rw [hsz, hcs]; omega)
          rw [hx, hr2] at hr
          injection hr with e1 e2
          subst e1
          left; rw [hx]; exact hb'
        · have holds : ∀ j u, xs[j]? = some u → w.cell? ((⟨g, 0, none⟩ : Addr).add j) = some u := World.ownsRow.cells (rowH_owns hrow) (by rw [hx]; rfl)
          have hr2 := Lib.run_append_grow_string (P := P) w t u ty e i _ hS hU hi hz ⟨g, 0, none⟩ n cap xs (by rw [hs1]; exact hrow.1) holds ⟨⟨l⟩⟩ (by rw [hsz]; omega) (by rw [hsz]; simp only [maxLen] at h63; omega) (by rw [hsz, hby]; exact growslice_fits (by omega) (by omega))
          rw [hx, hr2] at hr
          injection hr with e1 e2
          subst e1
          simp [Value.ownBlock] at hb'
          right; omega
    refine ⟨v', false, w', by simp [execOp, resolve, invoke, builtin, hy, hr], ⟨hg.os, hg.tape, hg.output, hg.size⟩, ?_⟩
    have := hK v' w'.heap
    rw [lsetK_eq] at this
    exact this (o.set hk hg.size (fun b hb hnb => hg.block b hb (fun e => hnb e.symm)) (owns_rowH hown) hfp (fun b hb => (hown.lt b hb).2))

/- append of zeros -/
theorem zeroCells_one (z : Value) (n : Nat) : Builtin.zeroCells #[z] n = (List.replicate n z).toArray := by
  apply Array.ext_getElem?
  intro j
  simp only [Builtin.zeroCells, Array.getElem?_map, List.getElem?_toArray, List.getElem?_replicate]
  by_cases hj : j < n
  · simp [hj, Nat.mod_one]
  · simp [hj]

theorem RunVC.appendZ {t u e : TypeId} {x y : Operand} {n : Nat} {xs : List Value} {z : Value} {by_ : Nat} {k1 k2 : IntKind} {m : Int} (o : Own h0 L h) (k : Nat) (hk : L[k]? = some (row (ev s x) e 1 n xs))
    (hS : SliceT P t e) (hU : P.underlying u = some (.int k2)) (hE : TyI P e false [z] by_) (hz1 : z.oneCell' = true) (hy : ev s y = .int k1 m) (h0' : 0 ≤ m) (h63 : n + m.toNat ≤ maxLen) (hb : (n + m.toNat) * by_ ≤ 140737488355328)
    (hK : ∀ v' h', lsetK L k (row v' e 1 (n + m.toNat) (xs ++ List.replicate m.toNat z)) fun L' => Own h0 L' h' → K v' false h') : RunVC P (.call ⟨.builtin .append, ⟨[x, y]⟩, ⟨[t, u]⟩⟩) ty s h K Q :=
  .of fun w hw => by
    subst hw
    obtain ⟨i, z', hi, hs, hz, hzc, hby⟩ := hE.info
    have hs1 : i.size = 1 := by simpa using hs
    have hzc1 : z'.cells = #[z] := hzc
    have hrow : rowH w.heap e 1 (ev s x) n xs := o.sat _ (List.mem_of_getElem? hk)
    obtain ⟨c, hc⟩ : ∃ c : Nat, m = c := ⟨m.toNat, by omega⟩
    subst hc
    simp only [Int.toNat_natCast] at h63 hb hK
    have hxl : xs.length = n := by simpa using hrow.1
    have hcm : c ≤ maxLen := by omega
    have hwr : IntKind.i64.wrap (c : Int) = c := by
      simp only [maxLen] at hcm
      simp only [IntKind.wrap, IntKind.bits, IntKind.signed]
      simp
      omega
    have hneg : ¬ ((c : Int) < 0) := by omega
    have h48 : ¬ (281474976710656 < (c : Int) * i.bytes) := by
      have : c * by_ ≤ (n + c) * by_ := Nat.mul_le_mul_right _ (by omega)
      have h2 : ((c * by_ : Nat) : Int) = (c : Int) * (by_ : Int) := by simp
      rw [hby]; omega
    have finish : ∀ (v' : Value) (w' : World), (Builtin.append_ #[t, u] ty #[ev s x, .int k1 c]).run P w = .ok v' w' → rowH w'.heap e 1 v' (n + c) (xs ++ List.replicate c z) → w.grownBy w' (ev s x).ownBlock →
        (∀ b, v'.ownBlock = some b → (ev s x).ownBlock = some b ∨ w.heap.size ≤ b) → (∀ b, v'.ownBlock = some b → b < w'.heap.size) →
        ∃ v l w', (execOp (ev s) ⟨none, .call ⟨.builtin .append, ⟨[x, y]⟩, ⟨[t, u]⟩⟩, ty, "", #[], none⟩).run P w = .ok (.value v) w' ∧ Same w w' ∧ K v l w'.heap := by
      intro v' w' hr hr' hg hfp hlt
      refine ⟨v', false, w', by simp [execOp, resolve, invoke, builtin, hy, hr], ⟨hg.os, hg.tape, hg.output, hg.size⟩, ?_⟩
      have := hK v' w'.heap
      rw [lsetK_eq] at this
      exact this (o.set hk hg.size (fun b hb hnb => hg.block b hb (fun e => hnb e.symm)) hr' hfp hlt)
    have grow : ∀ (old : Nat) (base : Option Addr), c ≠ 0 → ¬ (n + c ≤ old) → ev s x = .slice base n old → (∀ w1 : World, w1.heap = w.heap → (Builtin.firstCells 1 n (.slice base n old)).run P w1 = .ok xs.toArray w1) →
        ∃ v l w', (execOp (ev s) ⟨none, .call ⟨.builtin .append, ⟨[x, y]⟩, ⟨[t, u]⟩⟩, ty, "", #[], none⟩).run P w = .ok (.value v) w' ∧ Same w w' ∧ K v l w'.heap := by
      intro old base hcz hroom hx hfc
      have hcap := grownCap_ge w (n + c) old e
      have hcapm := grownCap_le_maxLen w (n + c) old e h63
      have hfit : ¬ (281474976710656 < Builtin.nextslicecap (n + c) old * i.bytes) := by
        rw [hby]
        have := growslice_fits (need := n + c) (old := old) (bytes := by_) (by omega) hb
        omega
      have h63' : ¬ (9223372036854775807 < (n : Int) + (c : Int)) := by simp only [maxLen] at h63; omega
      have hrest : Builtin.zeroCells z'.cells (grownCap w (n + c) old e - (n + c)) = (List.replicate (grownCap w (n + c) old e - (n + c)) z).toArray := by rw [hzc1, zeroCells_one]
      obtain ⟨cells, hcells⟩ : ∃ cells : Array Value, cells = xs.toArray ++ (List.replicate c z).toArray ++ (List.replicate (grownCap w (n + c) old e - (n + c)) z).toArray := ⟨_, rfl⟩
      have hcs : cells.size = grownCap w (n + c) old e := by rw [hcells]; simp [hxl]; omega
      refine finish (.slice (some ⟨w.heap.size, 0, none⟩) (n + c) (grownCap w (n + c) old e)) (w.drew.alloc (.cells cells e)) ?_ ?_ ?_ ?_ ?_
      · have hf := hfc w.drew rfl
        have hz0 : (Builtin.zeroCells z'.cells c) = (List.replicate c z).toArray := by rw [hzc1, zeroCells_one]
        rw [hx, hcells, ← hrest]
        simp [Builtin.append_, run_underlying hS, run_underlying hU, sizeOf, typeInfo, zeroValue, hi, hz, hs1, asInt, asIntOf, hwr, hneg, h48, hcz, hz0, hroom, h63', hfit, Question.forced, hf, newRow, grownCap]
      · refine ⟨by simp [hxl], .inr ⟨w.heap.size, _, cells, rfl, heap_alloc_new w.drew _, hcap, hcapm, by rw [hcs, Nat.mul_one], ?_⟩⟩
        rw [hcells]
        simp only [Array.toList_append]
        rw [List.take_left' (by simp [hxl])]
      · exact ⟨rfl, rfl, rfl, by simp, fun b hb _ => heap_alloc_old w.drew _ hb⟩
      · intro b hb; simp [Value.ownBlock] at hb; right; omega
      · intro b hb; simp [Value.ownBlock] at hb; simp; omega
    have same0 : c = 0 → (Builtin.append_ #[t, u] ty #[ev s x, .int k1 c]).run P w = .ok (ev s x) w →
        ∃ v l w', (execOp (ev s) ⟨none, .call ⟨.builtin .append, ⟨[x, y]⟩, ⟨[t, u]⟩⟩, ty, "", #[], none⟩).run P w = .ok (.value v) w' ∧ Same w w' ∧ K v l w'.heap := by
      intro hcz hr
      refine finish (ev s x) w hr ?_ ⟨rfl, rfl, rfl, Nat.le_refl _, fun _ _ _ => rfl⟩ (fun b hb => .inl hb) (fun b hb => o.hi _ (List.mem_of_getElem? hk) b hb)
      rw [hcz]; simpa using hrow
    rcases hrow.2 with ⟨hx, hn0⟩ | ⟨g, cap, cur, hx, hgg, hnc, hcm', hcs, ht⟩
    · by_cases hcz : c = 0
      · refine same0 hcz ?_
        rw [hx]
        subst hcz
        simp [Builtin.append_, run_underlying hS, run_underlying hU, sizeOf, typeInfo, zeroValue, hi, hz, asInt, asIntOf, show IntKind.i64.wrap 0 = 0 from rfl]
      · have hxs : xs = [] := List.eq_nil_of_length_eq_zero (by omega)
        exact grow 0 none hcz (by omega) (by rw [hx, hn0]) (fun w1 _ => by simp [Builtin.firstCells, hxs])
    · by_cases hcz : c = 0
      · refine same0 hcz ?_
        rw [hx]
        subst hcz
        simp [Builtin.append_, run_underlying hS, run_underlying hU, sizeOf, typeInfo, zeroValue, hi, hz, asInt, asIntOf, show IntKind.i64.wrap 0 = 0 from rfl, hnc, storeCells]
      · by_cases hroom : n + c ≤ cap
        · have hfitc : n + (List.replicate c z).length ≤ cur.size := by rw [hcs]; simp; omega
          have hst := run_storeCells_at P g n e (List.replicate c z) 0 cur w hgg (by simpa using hfitc) (fun u hu => by rw [List.eq_of_mem_replicate hu]; exact hz1)
          simp only [Nat.add_zero, List.length_replicate] at hst
          have hz0 : (Builtin.zeroCells z'.cells c) = (List.replicate c z).toArray := by rw [hzc1, zeroCells_one]
          refine finish (.slice (some ⟨g, 0, none⟩) (n + c) cap) (w.setRow g (cur.toList.take n ++ List.replicate c z ++ cur.toList.drop (n + c)).toArray) ?_ ?_ ?_ ?_ ?_
          · rw [hx]
            simp [Builtin.append_, run_underlying hS, run_underlying hU, sizeOf, typeInfo, zeroValue, hi, hz, hs1, asInt, asIntOf, hwr, hneg, h48, hcz, hz0, hroom, Addr.add_lit, hst]
          · refine ⟨by simp [hxl], .inr ⟨g, cap, _, rfl, setRow_heap w g cur _ e _ hgg, hroom, hcm', ?_, ?_⟩⟩
            · simp only [List.size_toArray, List.length_append, List.length_take, List.length_drop, Array.length_toList, List.length_replicate]
              simp only [Nat.mul_one] at hcs
              omega
            · have ht' : cur.toList.take n = xs := by simpa using ht
              rw [ht', Nat.mul_one]
              exact List.take_left' (by simp [hxl])
          · exact ⟨rfl, rfl, rfl, by simp, fun b _ hb => setRow_other w g b _ (fun e => hb (by rw [hx]; simp [Value.ownBlock, e]))⟩
          · intro b hb; left; rw [hx]; exact hb
          · intro b hb
            simp [Value.ownBlock] at hb
            subst hb
            have := (Array.getElem?_eq_some_iff.1 hgg).1
            simpa using this
        · refine grow cap (some ⟨g, 0, none⟩) hcz hroom hx (fun w1 hw1 => ?_)
          have holds : ∀ j u, xs[j]? = some u → w1.cell? ((⟨g, 0, none⟩ : Addr).add j) = some u := by
            have := World.ownsRow.cells (w := w1) (rowH_owns (w := w1) (by rw [hw1]; exact hrow)) (by rw [hx]; rfl)
            exact this
          exact run_firstCells_some (P := P) w1 1 n ⟨g, 0, none⟩ n cap xs (by simpa using hrow.1) holds


/- SLICES OF STRUCTS -/
theorem StillVC.idxN {t e : TypeId} {by_ : Nat} {x i : Operand} {n : Nat} {xs zero : List Value} {k : IntKind} {m : Int} {agg : Bool} (hS : SliceT P t e) (hE : TyI P e agg zero by_) (hA : ArrN zero.length h (ev s x) n xs)
    (hi : ev s i = .int k m) (h1 : 0 ≤ m) (h2 : m < n) (hk : evK s x fun v => K (adr v (m.toNat * zero.length)) false h) : StillVC pr P (.indexAddr t x i) ty s h K := by
  rw [evK_eq] at hk
  obtain ⟨_, a, cap, hv, _, r⟩ := hA
  rcases r with rfl | ⟨b, o, rfl, hc⟩
  · omega
  refine .pure' _ false (fun w => ?_) hk
  have he : P.elem t = e := by unfold SliceT at hS; simp [Program.elem, hS]
  have hS' : P.underlying t = some (.slice (P.elem t)) := by rw [he]; exact hS
  simp [execOp, hi, hv, run_indexAt_slice w t _ _ _ _ _ hS', h1, h2, he, hE.sizeOf, adr, Addr.add_lit]

theorem StillVC.loadAN {t : TypeId} {x : Operand} {zero : List Value} {by_ sz n off : Nat} {v : Value} {xs vs : List Value} (hA : ArrN sz h v n xs) (hT : TyI P t true zero by_) (hx : ev s x = adr v off)
    (hv : (xs.drop off).take zero.length = vs) (hl : vs.length = zero.length) (hz : 0 < zero.length) (hk : K (.agg ⟨vs⟩) false h) : StillVC false P (.load t x) ty s h K := by
  obtain ⟨hxl, a, cap, rfl, _, r⟩ := hA
  have hlen : off + zero.length ≤ xs.length := by
    have := congrArg List.length hv
    rw [hl] at this; simp only [List.length_take, List.length_drop] at this; omega
  rcases r with rfl | ⟨b, o, rfl, hc⟩
  · rw [Nat.zero_mul] at hxl; omega
  · refine .loadN (a := ⟨b, o + off, none⟩) hT (by simpa [adr] using hx) hl (fun j hj => ?_) hk
    rw [Addr.add_lit, Nat.add_assoc, hc (off + j) (by omega)]
    conv => rhs; rw [← hv]
    rw [List.getElem?_take, if_pos (by omega), List.getElem?_drop]

theorem StillVC.loadA1 {t : TypeId} {x : Operand} {zero : List Value} {by_ sz n i : Nat} {v u : Value} {xs : List Value} (hA : ArrN sz h v n xs) (hT : TyI P t false zero by_) (hx : ev s x = adr v i) (hu : xs[i]? = some u) (hk : K u false h) :
    StillVC false P (.load t x) ty s h K := by
  obtain ⟨hxl, a, cap, rfl, _, r⟩ := hA
  obtain ⟨hi, _⟩ := List.getElem?_eq_some_iff.1 hu
  rcases r with rfl | ⟨b, o, rfl, hc⟩
  · rw [Nat.zero_mul] at hxl; omega
  · exact .load1 hT (by simpa [adr] using hx) (by rw [hc i hi]; exact hu) hk

theorem StillVC.fieldAdr {t : TypeId} {x : Operand} {f : Nat} {places : List (Nat × Nat)} {aggs : List Bool} {zero xs : List Value} {off sz sz' n i : Nat} {v : Value} (hA : ArrN sz' h v n xs) (hn : 0 < n) (hT : StructT P t places aggs zero) (hx : ev s x = adr v i)
    (hp : places[f]? = some (off, sz)) (hz : Nat.beq sz 0 = false) (hk : K (adr v (i + off)) false h) : StillVC pr P (.fieldAddr t x f) ty s h K := by
  obtain ⟨hxl, a, cap, rfl, _, r⟩ := hA
  rcases r with rfl | ⟨b, o, rfl, hc⟩
  · omega
  · refine .fieldAddr hT (by simpa [adr] using hx) hp hz ?_
    rw [Nat.add_assoc]; exact hk

theorem flat_length {α : Type} {f : α → List Value} {sz : Nat} (hf : ∀ y, (f y).length = sz) (ys : List α) : (ys.flatMap f).length = ys.length * sz := by
  induction ys with
  | nil => simp
  | cons y ys ih => simp only [List.flatMap_cons, List.length_append, hf, ih, List.length_cons, Nat.add_mul, Nat.one_mul]; omega

theorem flat_drop {α : Type} {f : α → List Value} {sz : Nat} (hf : ∀ y, (f y).length = sz) : ∀ (ys : List α) (i : Nat), (ys.flatMap f).drop (i * sz) = (ys.drop i).flatMap f
  | [], i => by simp
  | y :: ys, 0 => by simp
  | y :: ys, i + 1 => by
    have : (i + 1) * sz = sz + i * sz := by rw [Nat.add_mul, Nat.one_mul, Nat.add_comm]
    rw [this, List.flatMap_cons, ← List.drop_drop]
    have e : (f y ++ ys.flatMap f).drop sz = ys.flatMap f := by
      rw [List.drop_left' (hf y)]
    rw [e, flat_drop hf ys i]
    rfl

theorem flat_take {α : Type} {f : α → List Value} {sz : Nat} (hf : ∀ y, (f y).length = sz) : ∀ (ys : List α) (i : Nat), (ys.flatMap f).take (i * sz) = (ys.take i).flatMap f
  | [], i => by simp
  | y :: ys, 0 => by simp
  | y :: ys, i + 1 => by
    have : (i + 1) * sz = sz + i * sz := by rw [Nat.add_mul, Nat.one_mul, Nat.add_comm]
    rw [this, List.flatMap_cons, List.take_add, List.take_left' (hf y), List.drop_left' (hf y), flat_take hf ys i]
    rfl

theorem flat_get {α : Type} {f : α → List Value} {sz i : Nat} {ys : List α} {y : α} (hf : ∀ y, (f y).length = sz) (hy : ys[i]? = some y) : ((ys.flatMap f).drop (i * sz)).take sz = f y := by
  obtain ⟨hi, he⟩ := List.getElem?_eq_some_iff.1 hy
  rw [flat_drop hf, List.drop_eq_getElem_cons hi, he, List.flatMap_cons, List.take_left' (hf y)]

theorem flat_get1 {α : Type} {f : α → List Value} {sz i off : Nat} {ys : List α} {y : α} {u : Value} (hf : ∀ y, (f y).length = sz) (hy : ys[i]? = some y) (hu : (f y)[off]? = some u) : (ys.flatMap f)[i * sz + off]? = some u := by
  have := flat_get hf hy
  obtain ⟨ho, _⟩ := List.getElem?_eq_some_iff.1 hu
  rw [hf] at ho
  rw [← this, List.getElem?_take, if_pos ho, List.getElem?_drop] at hu
  exact hu

theorem StillVC.loadF {α : Type} {t : TypeId} {x : Operand} {zero : List Value} {by_ n i : Nat} {v : Value} {f : α → List Value} {ys : List α} {y : α} (hA : ArrN zero.length h v n (ys.flatMap f)) (hT : TyI P t true zero by_) (hf : ∀ y, (f y).length = zero.length) (hz : 0 < zero.length)
    (hx : ev s x = adr v (i * zero.length)) (hy : ys[i]? = some y) (hk : K (.agg ⟨f y⟩) false h) : StillVC false P (.load t x) ty s h K :=
  .loadAN hA hT hx (flat_get hf hy) (hf y) hz hk

theorem StillVC.loadFF {α : Type} {t : TypeId} {x : Operand} {zero : List Value} {by_ n i off sz : Nat} {v u : Value} {f : α → List Value} {ys : List α} {y : α} (hA : ArrN sz h v n (ys.flatMap f)) (hT : TyI P t false zero by_) (hf : ∀ y, (f y).length = sz)
    (hx : ev s x = adr v (i * sz + off)) (hy : ys[i]? = some y) (hu : (f y)[off]? = some u) (hk : K u false h) : StillVC false P (.load t x) ty s h K :=
  .loadA1 hA hT hx (flat_get1 hf hy hu) hk

/- A LITERAL OF A SLICE OF STRUCTS -/
def lappV (a b : List Value) (k : List Value → Prop) : Prop :=
  match a with
  | [] => k b
  | x :: a => lappV a b fun r => k (x :: r)
theorem lappV_eq (a b : List Value) (k : List Value → Prop) : lappV a b k = k (a ++ b) := by
  induction a generalizing k with
  | nil => rfl
  | cons x a ih => simp [lappV, ih]

def concatK (s : List Value) (sz : Nat) (parts : List (Nat × Operand)) (k : List Value → Prop) : Prop :=
  match parts with
  | [] => k []
  | (_, x) :: rest => evK s x fun v => cellsK v fun vs => (Nat.beq vs.length sz && vs.all fun u => u.oneCell') = true ∧ concatK s sz rest fun r => lappV vs r k

theorem concatK_eq {s : List Value} {sz : Nat} : ∀ (parts : List (Nat × Operand)) (k : List Value → Prop), concatK s sz parts k → (∀ p ∈ parts, (ev s p.2).cells.toList.length = sz) ∧ k (parts.flatMap fun p => (ev s p.2).cells.toList)
  | [], k, h => ⟨by simp, by simpa [concatK] using h⟩
  | (i, x) :: rest, k, h => by
    simp only [concatK, evK_eq, cellsK_eq] at h
    obtain ⟨h1, h2⟩ := h
    obtain ⟨h3, h4⟩ := concatK_eq rest _ h2
    rw [lappV_eq] at h4
    simp only [Bool.and_eq_true] at h1
    refine ⟨fun p hp => ?_, by simpa using h4⟩
    rcases List.mem_cons.1 hp with rfl | hp
    · exact Nat.eq_of_beq_eq_true h1.1
    · exact h3 p hp

theorem lset_eq (vs : List Value) : ∀ (cs : List Value) (off : Nat), off + vs.length ≤ cs.length → lset cs off vs = cs.take off ++ vs ++ cs.drop (off + vs.length) := by
  induction vs with
  | nil => intro cs off h; simp [lset]
  | cons v vs ih =>
    intro cs off h
    simp only [List.length_cons] at h ⊢
    rw [lset, ih _ _ (by simp; omega)]
    have h1 : (cs.set off v).take (off + 1) = cs.take off ++ [v] := by
      rw [List.take_add_one, List.take_set, List.getElem?_set_self (by omega)]
      rw [List.set_eq_of_length_le (by simp; omega)]
      rfl
    have h2 : (cs.set off v).drop (off + 1 + vs.length) = cs.drop (off + (vs.length + 1)) := by
      rw [List.drop_set_of_lt (by omega)]
      congr 1; omega
    rw [h1, h2]; simp

theorem fill_rows (sz : Nat) : ∀ (us : List Value) (k : Nat) (cs : List Value), (∀ u ∈ us, u.cells.toList.length = sz) → (k + us.length) * sz ≤ cs.length →
    Instr.fill (fun i => some (i * sz, sz)) cs.toArray ((us.zipIdx k).map fun p => (p.2, p.1)) = some (cs.take (k * sz) ++ us.flatMap (fun u => u.cells.toList) ++ cs.drop ((k + us.length) * sz)).toArray := by
  intro us
  induction us with
  | nil => intro k cs _ _; simp [Instr.fill]
  | cons u us ih =>
    intro k cs h1 hl
    have hu := h1 u (by simp)
    have hsz : u.cells.size = sz := by simpa using hu
    have e1 : (k + (u :: us).length) * sz = k * sz + sz + us.length * sz := by simp [Nat.add_mul]; omega
    rw [e1] at hl
    simp only [List.zipIdx_cons, List.map_cons, Instr.fill, hsz, List.size_toArray]
    rw [if_neg (by simp; omega)]
    have hf := foldl_lset u.cells.toList (k * sz) cs 0
    rw [Nat.add_zero] at hf
    have e2 : (u.cells.zipIdx.foldl (fun cs (x : Value × Nat) => match x with | (c, j) => cs.setIfInBounds (k * sz + j) c) cs.toArray) = (lset cs (k * sz) u.cells.toList).toArray := by
      rw [← hf, ← Array.foldl_toList]
      simp
    rw [e2]
    have hl2 : (lset cs (k * sz) u.cells.toList).length = cs.length := lset_length _ _ _
    rw [ih (k + 1) _ (fun v hv => h1 v (by simp [hv])) (by rw [hl2, Nat.add_mul, Nat.add_mul, Nat.one_mul]; omega)]
    rw [lset_eq _ _ _ (by rw [hu]; omega), hu, e1]
    congr 2
    have e3 : (k + 1) * sz = k * sz + sz := by rw [Nat.add_mul, Nat.one_mul]
    have e4 : (k + 1 + us.length) * sz = k * sz + sz + us.length * sz := by simp [Nat.add_mul]
    rw [e3, e4]
    have t1 : (cs.take (k * sz) ++ u.cells.toList ++ cs.drop (k * sz + sz)).take (k * sz + sz) = cs.take (k * sz) ++ u.cells.toList := by
      rw [List.take_left' (by simp only [List.length_append, List.length_take, hu]; omega)]
    have t2 : (cs.take (k * sz) ++ u.cells.toList ++ cs.drop (k * sz + sz)).drop (k * sz + sz + us.length * sz) = cs.drop (k * sz + sz + us.length * sz) := by
      rw [← List.drop_drop, List.drop_left' (by simp only [List.length_append, List.length_take, hu]; omega), List.drop_drop]
    rw [t1, t2]
    simp

/-- A literal of a slice, all of whose places are given in order; its elements may be structs. -/
theorem RunVC.litN {t e : TypeId} {n : Nat} {parts : List (Nat × Operand)} {zero : List Value} {agg : Bool} {by_ : Nat} (o : Own h0 L h) (hS : SliceT P t e) (hE : TyI P e agg zero by_)
    (hp : parts.map (·.1) = List.range' 0 parts.length) (hn : parts.length = n) (hsm : n * zero.length ≤ 16777216)
    (hK : concatK s zero.length parts fun vs => ∀ b h', lappK L (box b vs e) fun L' => Own h0 L' h' → K (.slice (some ⟨b, 0, none⟩) n n) false h') : RunVC P (.buildSlice t n ⟨parts⟩) ty s h K Q :=
  .of fun w hw => by
    subst hw
    obtain ⟨i, z', hi, hs, hz, hzc, hb⟩ := hE.info
    obtain ⟨hall, hK⟩ := concatK_eq _ _ hK
    have hzr := zipIdx_of_range parts s 0 hp
    have hflat : parts.flatMap (fun p => (ev s p.2).cells.toList) = ((parts.map (·.2)).map (ev s)).flatMap fun u => u.cells.toList := by simp [List.flatMap_map]
    rw [hflat] at hK
    have hus : ∀ u ∈ (parts.map (·.2)).map (ev s), u.cells.toList.length = zero.length := by
      intro u hu
      simp only [List.map_map, List.mem_map, Function.comp_apply] at hu
      obtain ⟨p, hp, rfl⟩ := hu
      exact hall p hp
    have hul : ((parts.map (·.2)).map (ev s)).length = n := by simpa using hn
    generalize (parts.map (·.2)).map (ev s) = us at *
    have hparts : ((⟨parts⟩ : Array (Nat × Operand)).map fun x => match x with | (i, x) => (i, ev s x)).toList = us.zipIdx.map (fun p => (p.2, p.1)) := by
      rw [← hzr]; simp
    have hflen : (us.flatMap fun u => u.cells.toList).length = n * zero.length := by
      rw [← hul]
      clear hK hzr hparts hul hflat
      induction us with
      | nil => simp
      | cons u us ih =>
        simp only [List.flatMap_cons, List.length_append, hus u (by simp), ih (fun v hv => hus v (by simp [hv])), List.length_cons, Nat.add_mul, Nat.one_mul]
        omega
    have hle : ¬ (16777216 < n * zero.length) := by omega
    have hfill : ∀ cs : List Value, cs.length = n * zero.length → Instr.fill (fun i => some (i * zero.length, zero.length)) cs.toArray (us.zipIdx.map fun p => (p.2, p.1)) = some (us.flatMap fun u => u.cells.toList).toArray := by
      intro cs hcs
      have := fill_rows zero.length us 0 cs hus (by rw [hcs, Nat.zero_add, hul]; exact Nat.le_refl _)
      rw [this]
      congr 2
      rw [Nat.zero_mul, List.take_zero, List.nil_append, Nat.zero_add, hul, List.drop_of_length_le (by omega), List.append_nil]
    refine ⟨.slice (some ⟨w.heap.size, 0, none⟩) n n, false, { w with heap := w.heap.push (.cells (us.flatMap fun u => u.cells.toList).toArray e) }, ?_, ⟨rfl, rfl, rfl, by simp⟩, ?_⟩
    · have hf : ∀ z0 : Array Value, Instr.fill (fun i => some (i * zero.length, zero.length)) ((Array.range (n * zero.length)).map (fun j => z0[j % z0.size]!)) (us.zipIdx.map fun p => (p.2, p.1)) = some (us.flatMap fun u => u.cells.toList).toArray := fun z0 => by
        have := hfill ((Array.range (n * zero.length)).map (fun j => z0[j % z0.size]!)).toList (by simp)
        simpa only [Array.toArray_toList] using this
      have key : (Instr.buildSlice t n ((⟨parts⟩ : Array (Nat × Operand)).map fun x => match x with | (i, x) => (i, ev s x))).run P w = .ok (.slice (some ⟨w.heap.size, 0, none⟩) n n) { w with heap := w.heap.push (.cells (us.flatMap fun u => u.cells.toList).toArray e) } := by
        unfold Instr.buildSlice
        simp only [Sem.run_bind, run_underlying hS, Result.andThen_ok, sizeOf, typeInfo, run_program, hi, Sem.run_pure, hs, hparts]
        rw [if_neg hle]
        by_cases h0 : n * zero.length = 0
        · simp only [h0, if_true, Sem.run_pure, Result.andThen_ok, Sem.run_bind]
          have := hf #[]
          rw [h0] at this
          rw [this]
          simp [newRow]
        · simp only [if_neg h0, Sem.run_bind, zeroValue, typeInfo, run_program, hi, hz, Sem.run_pure, Result.andThen_ok]
          rw [hf]
          simp [newRow]
      simp only [List.map_toArray] at key
      simp [execOp, key]
    · have := hK w.heap.size (w.heap.push (.cells (us.flatMap fun u => u.cells.toList).toArray e))
      rw [lappK_eq] at this
      exact this (by have := o.push (c := (us.flatMap fun u => u.cells.toList).toArray) (t := e); simpa using this)

/- what is read of a box as a slice of structs -/
theorem Own.boxArrN (o : Own h0 L h) (k : Nat) {b : Nat} {cs : List Value} {t : TypeId} (hk : L[k]? = some (box b cs t)) {sz n c : Nat} (hn : cs.length = n * sz) (hc : n ≤ c) : ArrN sz h (.slice (some ⟨b, 0, none⟩) n c) n cs :=
  ⟨hn, _, _, rfl, hc, .inr ⟨b, 0, rfl, fun i _ => by rw [Nat.zero_add]; exact o.cellB k hk i⟩⟩

/- FULL SLICE EXPRESSIONS -/
theorem StillVC.slice3 {t e : TypeId} {by_ : Nat} {x l m q : Operand} {agg : Bool} {z : Value} {xs : List Value} {k k' k2 : IntKind} {i j c : Int} (hS : SliceT P t e) (hE : TyI P e agg [z] by_) (hA : Arr h (ev s x) xs)
    (hl : ev s l = .int k i) (hm : ev s m = .int k' j) (hq : ev s q = .int k2 c) (h0 : 0 ≤ i) (h1 : i ≤ j) (h2 : j ≤ c) (h3 : c ≤ xs.length) (hk : ∀ v, Arr h v ((xs.drop i.toNat).take (j.toNat - i.toNat)) → K v false h) : StillVC pr P (.slice t x (some l) (some m) (some q)) ty s h K := by
  obtain ⟨a, cap, hv, hcl, r⟩ := hA
  have he : P.elem t = e := by unfold SliceT at hS; simp [Program.elem, hS]
  have hS' : P.underlying t = some (.slice (P.elem t)) := by rw [he]; exact hS
  refine .pure' (sliced a i.toNat j.toNat c.toNat 1) false (fun w => ?_) (hk _ ?_)
  · simp [execOp, hv, hl, hm, hq, run_sliceAt_slice w t _ _ _ _ hS', run_slice_lhm w t a xs.length cap hS' k k' k2 i j c h0 h1 h2 (by omega), he, hE.sizeOf]
  · have hlen : ((xs.drop i.toNat).take (j.toNat - i.toNat)).length = j.toNat - i.toNat := by simp; omega
    refine ⟨if c.toNat = i.toNat then a else a.map (·.add (i.toNat * 1)), c.toNat - i.toNat, by rw [hlen]; rfl, by rw [hlen]; omega, ?_⟩
    by_cases hz : j.toNat ≤ i.toNat
    · left; rw [show j.toNat - i.toNat = 0 by omega]; rfl
    · rcases r with rfl | ⟨b, o, rfl, hc⟩
      · simp at h3; omega
      · refine .inr ⟨b, o + i.toNat, by rw [if_neg (by omega)]; simp [Addr.add_lit], fun q hq => ?_⟩
        rw [hlen] at hq
        rw [Nat.add_assoc, hc (i.toNat + q) (by omega), List.getElem?_take, if_pos hq, List.getElem?_drop]

end
end Go.Proofs.YtfjajkgfgigodaaGreatDoor
