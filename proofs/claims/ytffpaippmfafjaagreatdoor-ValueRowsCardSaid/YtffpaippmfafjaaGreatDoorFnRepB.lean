/-
  The library's replacer of bytes by texts: how it is built.
-/
import Derived.Test.YtffpaippmfafjaaGreatDoorStructs
import Derived.Test.YtffpaippmfafjaaGreatDoorFnRepO
namespace Go.Proofs.YtffpaippmfafjaaGreatDoor
open Go

abbrev nilS : Value := .slice none 0 0
def zBSR : List Value := List.replicate 257 nilS

set_option maxRecDepth 100000 in
theorem ty120 : TyI Tryz.prog 120 true zBSR 6168 := .mk' (z := .agg ⟨zBSR⟩) Tryz.underlying120 rfl (by kernel_rfl) rfl
set_option maxRecDepth 100000 in
theorem st120 : StructT Tryz.prog 120 [(0, 256), (256, 1)] [true, false] zBSR := .mk' (by kernel_rfl) ty120
theorem arr118 : ArrT Tryz.prog 118 69 256 nilS 24 := ⟨Tryz.underlying118, ty69⟩

/-- The replacer's cells: the table, and the list of what is replaced. -/
structure RepC (cs : List Value) (t : Value) (f : Nat → Value) : Prop where
  len : cs.length = 257
  last : cs[256]? = some t
  at_ : ∀ i, i < 256 → cs[i]? = some (f i)

theorem zBSR_len : zBSR.length = 257 := List.length_replicate

theorem zBSR_set (v : Value) (hv : v.oneCell' = true) : (zBSR.set 256 v).all (fun u => u.oneCell') = true := by
  refine List.all_eq_true.2 fun u hu => ?_
  rcases List.mem_or_eq_of_mem_set hu with h | rfl
  · rw [List.eq_of_mem_replicate h]; rfl
  · exact hv

theorem RepC.start (t : Value) : RepC (zBSR.set 256 t) t (fun _ => nilS) where
  len := by rw [List.length_set]; exact zBSR_len
  last := List.getElem?_set_self (by rw [zBSR_len]; omega)
  at_ i hi := by
    rw [List.getElem?_set_ne (by omega), zBSR, List.getElem?_replicate, if_pos (by omega)]

def putF (f : Nat → Value) (i : Nat) (v : Value) : Nat → Value := fun j => if j = i then v else f j

theorem RepC.setT {cs : List Value} {t t' : Value} {f : Nat → Value} (r : RepC cs t f) : RepC (cs.set 256 t') t' f where
  len := by simp [r.len]
  last := by simp [r.len]
  at_ i hi := by rw [List.getElem?_set_ne (by omega)]; exact r.at_ i hi

theorem RepC.setV {cs : List Value} {t v : Value} {f : Nat → Value} (r : RepC cs t f) (i : Nat) (hi : i < 256) : RepC (cs.set i v) t (putF f i v) where
  len := by simp [r.len]
  last := by rw [List.getElem?_set_ne (by omega)]; exact r.last
  at_ j hj := by
    unfold putF
    by_cases h : j = i
    · subst h; rw [if_pos rfl]; exact List.getElem?_set_self (by rw [r.len]; omega)
    · rw [List.getElem?_set_ne (Ne.symm h), if_neg h]; exact r.at_ j hj

def strV (l : List UInt8) : Value := .string ⟨⟨l⟩⟩

/-- What is replaced, and by what. -/
def oldNew : List Value := [strV [34], strV [92, 34], strV [92], strV [92, 92], strV [10], strV [92, 110]]

def repF (v w x : Value) : Nat → Value := putF (putF (putF (fun _ => nilS) 10 v) 92 w) 34 x

set_option maxHeartbeats 8000000 in
set_option maxRecDepth 100000 in
theorem build_spec (B : Base) (b : Nat) (d st se r : Value) (a : Option Addr) (c : Nat) (h : Heap)
    (o0 : Own B [box b [d, st, se, r, .slice a 6 c] 91, row (.slice a 6 c) 9 1 6 oldNew] h) :
    SpecR Tryz.prog 63 [pA b 0] h fun res h' => ∃ rb cs t v w x, res = .iface 121 (pA rb 0) ∧ RepC cs t (repF v w x) ∧
      Own B [box b [d, st, se, r, .slice a 6 c] 91, row (.slice a 6 c) 9 1 6 oldNew, box rb cs 120, row t 9 1 3 [strV [10], strV [92], strV [34]], ro v (bytes [92, 110]), ro w (bytes [92, 92]), ro x (bytes [92, 34])] h' := by
  have hol : oldNew.length = 6 := rfl
  refine Spec.enter Tryz.func63 rfl Tryz.ntmps63 (by kernel_rfl) ?_
  refine StillVC.run (StillVC.nilCheck rfl ?_)
  refine StillVC.run (StillVC.fieldAddr st91 rfl rfl rfl ?_)
  refine StillVC.run (StillVC.loadO o0 0 rfl ty75 rfl rfl ?_)
  refine StillVC.run (StillVC.lenV rfl sl75 ?_)
  refine Br.ff ?_
  refine Br.ff ?_
  refine LoopVC.intro [2, 4, 5, 37, 38, 39, 40, 41, 42, 43, 44, 45, 46, 47, 48, 49, 50, 51, 52, 53, 54, 55, 56, 57, 58] [4, 5] (fun vs hh => (vs = [.bool true, .int .i64 0] ∨ vs = [.bool false, .int .i64 2] ∨ vs = [.bool false, .int .i64 4] ∨ vs = [.bool false, .int .i64 6]) ∧ Own B [box b [d, st, se, r, .slice a 6 c] 91, row (.slice a 6 c) 9 1 6 oldNew] hh) (fun vs _ => match vs with | [_, .int _ i] => 6 - i.toNat | _ => 0) ?_ ?_
  · exact ⟨.inl rfl, o0⟩
  · rintro vs junk hh ⟨hv, oh⟩
    rcases hv with rfl | rfl | rfl | rfl
    · refine StillVC.run (StillVC.lenV rfl sl75 ?_)
      refine Br.tt ?_
      refine StillVC.run (StillVC.idx sl75 ty9 (oh.rowArr 1 rfl) rfl (by omega) (by omega) ?_)
      refine StillVC.run (StillVC.loadA (oh.rowArr 1 rfl) ty9 rfl (by first | assumption | rfl) ?_)
      refine StillVC.run (StillVC.lenS rfl str9 ?_)
      refine Br.ff ?_
      refine Ar.i64 (by omega) (by omega) ?_
      refine StillVC.run (StillVC.idx sl75 ty9 (oh.rowArr 1 rfl) rfl (by omega) (by omega) ?_)
      refine StillVC.run (StillVC.loadA (oh.rowArr 1 rfl) ty9 rfl (by first | assumption | rfl) ?_)
      refine StillVC.run (StillVC.lenS rfl str9 ?_)
      refine Br.tt ?_
      refine Ar.i64 (by omega) (by omega) ?_
      refine ⟨rfl, ?_⟩
      exact ⟨⟨.inr (.inl rfl), oh⟩, by decide⟩
    · refine StillVC.run (StillVC.lenV rfl sl75 ?_)
      refine Br.tt ?_
      refine StillVC.run (StillVC.idx sl75 ty9 (oh.rowArr 1 rfl) rfl (by omega) (by omega) ?_)
      refine StillVC.run (StillVC.loadA (oh.rowArr 1 rfl) ty9 rfl (by first | assumption | rfl) ?_)
      refine StillVC.run (StillVC.lenS rfl str9 ?_)
      refine Br.ff ?_
      refine Ar.i64 (by omega) (by omega) ?_
      refine StillVC.run (StillVC.idx sl75 ty9 (oh.rowArr 1 rfl) rfl (by omega) (by omega) ?_)
      refine StillVC.run (StillVC.loadA (oh.rowArr 1 rfl) ty9 rfl (by first | assumption | rfl) ?_)
      refine StillVC.run (StillVC.lenS rfl str9 ?_)
      refine Br.tt ?_
      refine Ar.i64 (by omega) (by omega) ?_
      refine ⟨rfl, ?_⟩
      exact ⟨⟨.inr (.inr (.inl rfl)), oh⟩, by decide⟩
    · refine StillVC.run (StillVC.lenV rfl sl75 ?_)
      refine Br.tt ?_
      refine StillVC.run (StillVC.idx sl75 ty9 (oh.rowArr 1 rfl) rfl (by omega) (by omega) ?_)
      refine StillVC.run (StillVC.loadA (oh.rowArr 1 rfl) ty9 rfl (by first | assumption | rfl) ?_)
      refine StillVC.run (StillVC.lenS rfl str9 ?_)
      refine Br.ff ?_
      refine Ar.i64 (by omega) (by omega) ?_
      refine StillVC.run (StillVC.idx sl75 ty9 (oh.rowArr 1 rfl) rfl (by omega) (by omega) ?_)
      refine StillVC.run (StillVC.loadA (oh.rowArr 1 rfl) ty9 rfl (by first | assumption | rfl) ?_)
      refine StillVC.run (StillVC.lenS rfl str9 ?_)
      refine Br.tt ?_
      refine Ar.i64 (by omega) (by omega) ?_
      refine ⟨rfl, ?_⟩
      exact ⟨⟨.inr (.inr (.inr rfl)), oh⟩, by decide⟩
    · refine StillVC.run (StillVC.lenV rfl sl75 ?_)
      refine Br.ff ?_
      refine Br.ff ?_
      refine StillVC.run (StillVC.lenV rfl sl75 ?_)
      refine StillVC.run (StillVC.quoE rfl rfl (by omega) (by omega) (by simp [IntKind.max, IntKind.signed, IntKind.bits] <;> omega) ?_)
      (refine RunVC.make0 oh sl75 ty9 rfl rfl (by omega) (by omega) (by omega) ?_; intro v83 m83 o83)
      refine StillVC.run (StillVC.buildK st120 ?_)
      obtain ⟨ta, tc, rfl⟩ := o83.rowIs 2 rfl
      refine ⟨by rw [zBSR_len]; rfl, ?_⟩
      (refine RunVC.alloc o83 ty120 ?_; intro b90 m90 o90)
      refine RunVC.storeAll (vs := zBSR.set 256 (.slice ta 0 tc)) (by assumption) 3 rfl ty120 ?_ ?_ List.length_set rfl (zBSR_set (.slice ta 0 tc) rfl) ?_
      · rfl
      · rfl
      intro m91 o91
      have hR := RepC.start (.slice ta 0 tc)
      generalize zBSR.set 256 (.slice ta 0 tc) = cs0 at *
      refine StillVC.run (StillVC.lenV rfl sl75 ?_)
      refine Ar.i64 (by omega) (by omega) ?_
      refine LoopVC.intro [12, 13, 14, 99, 100, 101, 102, 103, 104, 105, 106, 107, 108, 109, 110, 111, 112, 113, 114, 115, 116, 117, 118, 119, 120, 121, 122, 123, 124, 125, 126, 127, 128, 129, 130] [12] (fun vs hh => (vs = [.int .i64 4] ∧ ∃ (ta : Option Addr) (tc : Nat) (cs : List Value), RepC cs (.slice ta 0 tc) (fun _ => nilS) ∧ Own B [box b [d, st, se, r, .slice a 6 c] 91, row (.slice a 6 c) 9 1 6 oldNew, box b90 cs 120, row (.slice ta 0 tc) 9 1 0 []] hh) ∨ (vs = [.int .i64 2] ∧ ∃ (ta : Option Addr) (tc : Nat) (cs : List Value) (v : Value), RepC cs (.slice ta 1 tc) (putF (fun _ => nilS) 10 v) ∧ Own B [box b [d, st, se, r, .slice a 6 c] 91, row (.slice a 6 c) 9 1 6 oldNew, box b90 cs 120, row (.slice ta 1 tc) 9 1 1 [strV [10]], ro v (bytes [92, 110])] hh) ∨ (vs = [.int .i64 0] ∧ ∃ (ta : Option Addr) (tc : Nat) (cs : List Value) (v w : Value), RepC cs (.slice ta 2 tc) (putF (putF (fun _ => nilS) 10 v) 92 w) ∧ Own B [box b [d, st, se, r, .slice a 6 c] 91, row (.slice a 6 c) 9 1 6 oldNew, box b90 cs 120, row (.slice ta 2 tc) 9 1 2 [strV [10], strV [92]], ro v (bytes [92, 110]), ro w (bytes [92, 92])] hh) ∨ (vs = [.int .i64 (-2)] ∧ ∃ (ta : Option Addr) (tc : Nat) (cs : List Value) (v w x : Value), RepC cs (.slice ta 3 tc) (repF v w x) ∧ Own B [box b [d, st, se, r, .slice a 6 c] 91, row (.slice a 6 c) 9 1 6 oldNew, box b90 cs 120, row (.slice ta 3 tc) 9 1 3 [strV [10], strV [92], strV [34]], ro v (bytes [92, 110]), ro w (bytes [92, 92]), ro x (bytes [92, 34])] hh)) (fun vs _ => match vs with | [.int _ i] => (i + 2).toNat | _ => 0) ?_ ?_
      · exact .inl ⟨rfl, ta, tc, cs0, hR, o91.sel [0, 1, 3, 2] rfl⟩
      · clear o91 hR
        rintro vs junk hh hI
        rcases hI with ⟨rfl, ta, tc, cs, hR, oh⟩ | ⟨rfl, ta, tc, cs, v, hR, oh⟩ | ⟨rfl, ta, tc, cs, v, w, hR, oh⟩ | ⟨rfl, ta, tc, cs, v, w, x, hR, oh⟩
        · have e256 := hR.last
          have hlen := hR.len
          have p1 : ([10] : List UInt8)[(0 : Int).toNat]? = some 10 := rfl
          have p2 : UInt8.toNat 10 = 10 := rfl
          have eo : cs[10]? = some nilS := hR.at_ 10 (by omega)
          refine Br.tt ?_
          refine StillVC.run (StillVC.idx sl75 ty9 (oh.rowArr 1 rfl) rfl (by omega) (by omega) ?_)
          refine StillVC.run (StillVC.loadA (oh.rowArr 1 rfl) ty9 rfl (by first | assumption | rfl) ?_)
          refine StillVC.run (StillVC.strIdx rfl rfl str9 (by omega) (by assumption) ?_)
          refine Ar.i64 (by omega) (by omega) ?_
          refine StillVC.run (StillVC.idx sl75 ty9 (oh.rowArr 1 rfl) rfl (by omega) (by omega) ?_)
          refine StillVC.run (StillVC.loadA (oh.rowArr 1 rfl) ty9 rfl (by first | assumption | rfl) ?_)
          refine StillVC.run (StillVC.fieldAddr st120 rfl rfl rfl ?_)
          refine StillVC.run (StillVC.idxArr arr118.arr arr118.el rfl rfl (by omega) (by omega) ?_)
          refine StillVC.run (StillVC.loadO oh 2 rfl ty69 rfl (by assumption) ?_)
          refine StillVC.run (StillVC.eqNil sl69 rfl rfl ?_)
          refine Br.tt ?_
          refine StillVC.run (StillVC.fieldAddr st120 rfl rfl rfl ?_)
          refine StillVC.run (StillVC.loadO oh 2 rfl ty75 rfl (by assumption) ?_)
          (refine RunVC.lit oh sl69 ty5 rfl rfl (by decide) (And.intro rfl ?_); intro b121 m121 o121)
          refine StillVC.run (StillVC.bytesStr (l := [10]) (Own.boxArr (by assumption) 4 rfl rfl (by decide)) sl69 int5 str9 ?_)
          (refine RunVC.lit o121 sl75 ty9 rfl rfl (by decide) (And.intro rfl ?_); intro b130 m130 o130)
          refine RunVC.append (by assumption) 3 rfl sl75 ty9 (by decide) ((Own.boxArr (by assumption) 5 rfl (n := 1) (c := 1) rfl (by decide)).toN) (by simp [Value.oneCell']) (by simp [maxLen]) (by simp) ?_
          intro v132 m132 o132
          obtain ⟨tb, td, rfl⟩ := o132.rowIs 3 rfl
          refine StillVC.run (StillVC.fieldAddr st120 rfl rfl rfl ?_)
          (refine RunVC.store o132 2 rfl ty75 rfl (by simp only [List.length_cons, List.length_nil, Nat.zero_add]; omega) (And.intro ⟨rfl, rfl⟩ ?_); intro m134 o134)
          (refine RunVC.strBytes o134 str9 sl69 int5 rfl ?_; intro v135 m135 o135)
          refine StillVC.run (StillVC.fieldAddr st120 rfl rfl rfl ?_)
          refine StillVC.run (StillVC.idxArr arr118.arr arr118.el rfl rfl (by omega) (by omega) ?_)
          obtain ⟨ra, rc, rfl, -⟩ := o135.roArr 6 rfl
          (refine RunVC.store o135 2 rfl ty69 rfl (by first | omega | (simp; omega)) (And.intro ⟨rfl, rfl⟩ ?_); intro m143 o143)
          refine Ar.i64 (by omega) (by omega) ?_
          refine ⟨rfl, ?_⟩
          exact ⟨.inr (.inl ⟨rfl, tb, td, _, _, (hR.setT (t' := .slice tb 1 td)).setV 10 (by omega), Own.sel (by assumption) [0, 1, 2, 3, 6] rfl⟩), by decide⟩
        · have e256 := hR.last
          have hlen := hR.len
          have p1 : ([92] : List UInt8)[(0 : Int).toNat]? = some 92 := rfl
          have p2 : UInt8.toNat 92 = 92 := rfl
          have eo : cs[92]? = some nilS := hR.at_ 92 (by omega)
          refine Br.tt ?_
          refine StillVC.run (StillVC.idx sl75 ty9 (oh.rowArr 1 rfl) rfl (by omega) (by omega) ?_)
          refine StillVC.run (StillVC.loadA (oh.rowArr 1 rfl) ty9 rfl (by first | assumption | rfl) ?_)
          refine StillVC.run (StillVC.strIdx rfl rfl str9 (by omega) (by assumption) ?_)
          refine Ar.i64 (by omega) (by omega) ?_
          refine StillVC.run (StillVC.idx sl75 ty9 (oh.rowArr 1 rfl) rfl (by omega) (by omega) ?_)
          refine StillVC.run (StillVC.loadA (oh.rowArr 1 rfl) ty9 rfl (by first | assumption | rfl) ?_)
          refine StillVC.run (StillVC.fieldAddr st120 rfl rfl rfl ?_)
          refine StillVC.run (StillVC.idxArr arr118.arr arr118.el rfl rfl (by omega) (by omega) ?_)
          refine StillVC.run (StillVC.loadO oh 2 rfl ty69 rfl (by assumption) ?_)
          refine StillVC.run (StillVC.eqNil sl69 rfl rfl ?_)
          refine Br.tt ?_
          refine StillVC.run (StillVC.fieldAddr st120 rfl rfl rfl ?_)
          refine StillVC.run (StillVC.loadO oh 2 rfl ty75 rfl (by assumption) ?_)
          (refine RunVC.lit oh sl69 ty5 rfl rfl (by decide) (And.intro rfl ?_); intro b161 m161 o161)
          refine StillVC.run (StillVC.bytesStr (l := [92]) (Own.boxArr (by assumption) 5 rfl rfl (by decide)) sl69 int5 str9 ?_)
          (refine RunVC.lit o161 sl75 ty9 rfl rfl (by decide) (And.intro rfl ?_); intro b180 m180 o180)
          refine RunVC.append (by assumption) 3 rfl sl75 ty9 (by decide) ((Own.boxArr (by assumption) 6 rfl (n := 1) (c := 1) rfl (by decide)).toN) (by simp [Value.oneCell']) (by simp [maxLen]) (by simp) ?_
          intro v182 m182 o182
          obtain ⟨tb, td, rfl⟩ := o182.rowIs 3 rfl
          refine StillVC.run (StillVC.fieldAddr st120 rfl rfl rfl ?_)
          (refine RunVC.store o182 2 rfl ty75 rfl (by simp only [List.length_cons, List.length_nil, Nat.zero_add]; omega) (And.intro ⟨rfl, rfl⟩ ?_); intro m184 o184)
          (refine RunVC.strBytes o184 str9 sl69 int5 rfl ?_; intro v185 m185 o185)
          refine StillVC.run (StillVC.fieldAddr st120 rfl rfl rfl ?_)
          refine StillVC.run (StillVC.idxArr arr118.arr arr118.el rfl rfl (by omega) (by omega) ?_)
          obtain ⟨ra, rc, rfl, -⟩ := o185.roArr 7 rfl
          (refine RunVC.store o185 2 rfl ty69 rfl (by first | omega | (simp; omega)) (And.intro ⟨rfl, rfl⟩ ?_); intro m193 o193)
          refine Ar.i64 (by omega) (by omega) ?_
          refine ⟨rfl, ?_⟩
          exact ⟨.inr (.inr (.inl ⟨rfl, tb, td, _, _, _, (hR.setT (t' := .slice tb 2 td)).setV 92 (by omega), Own.sel (by assumption) [0, 1, 2, 3, 4, 7] rfl⟩)), by decide⟩
        · have e256 := hR.last
          have hlen := hR.len
          have p1 : ([34] : List UInt8)[(0 : Int).toNat]? = some 34 := rfl
          have p2 : UInt8.toNat 34 = 34 := rfl
          have eo : cs[34]? = some nilS := hR.at_ 34 (by omega)
          refine Br.tt ?_
          refine StillVC.run (StillVC.idx sl75 ty9 (oh.rowArr 1 rfl) rfl (by omega) (by omega) ?_)
          refine StillVC.run (StillVC.loadA (oh.rowArr 1 rfl) ty9 rfl (by first | assumption | rfl) ?_)
          refine StillVC.run (StillVC.strIdx rfl rfl str9 (by omega) (by assumption) ?_)
          refine Ar.i64 (by omega) (by omega) ?_
          refine StillVC.run (StillVC.idx sl75 ty9 (oh.rowArr 1 rfl) rfl (by omega) (by omega) ?_)
          refine StillVC.run (StillVC.loadA (oh.rowArr 1 rfl) ty9 rfl (by first | assumption | rfl) ?_)
          refine StillVC.run (StillVC.fieldAddr st120 rfl rfl rfl ?_)
          refine StillVC.run (StillVC.idxArr arr118.arr arr118.el rfl rfl (by omega) (by omega) ?_)
          refine StillVC.run (StillVC.loadO oh 2 rfl ty69 rfl (by assumption) ?_)
          refine StillVC.run (StillVC.eqNil sl69 rfl rfl ?_)
          refine Br.tt ?_
          refine StillVC.run (StillVC.fieldAddr st120 rfl rfl rfl ?_)
          refine StillVC.run (StillVC.loadO oh 2 rfl ty75 rfl (by assumption) ?_)
          (refine RunVC.lit oh sl69 ty5 rfl rfl (by decide) (And.intro rfl ?_); intro b211 m211 o211)
          refine StillVC.run (StillVC.bytesStr (l := [34]) (Own.boxArr (by assumption) 6 rfl rfl (by decide)) sl69 int5 str9 ?_)
          (refine RunVC.lit o211 sl75 ty9 rfl rfl (by decide) (And.intro rfl ?_); intro b230 m230 o230)
          refine RunVC.append (by assumption) 3 rfl sl75 ty9 (by decide) ((Own.boxArr (by assumption) 7 rfl (n := 1) (c := 1) rfl (by decide)).toN) (by simp [Value.oneCell']) (by simp [maxLen]) (by simp) ?_
          intro v232 m232 o232
          obtain ⟨tb, td, rfl⟩ := o232.rowIs 3 rfl
          refine StillVC.run (StillVC.fieldAddr st120 rfl rfl rfl ?_)
          (refine RunVC.store o232 2 rfl ty75 rfl (by simp only [List.length_cons, List.length_nil, Nat.zero_add]; omega) (And.intro ⟨rfl, rfl⟩ ?_); intro m234 o234)
          (refine RunVC.strBytes o234 str9 sl69 int5 rfl ?_; intro v235 m235 o235)
          refine StillVC.run (StillVC.fieldAddr st120 rfl rfl rfl ?_)
          refine StillVC.run (StillVC.idxArr arr118.arr arr118.el rfl rfl (by omega) (by omega) ?_)
          obtain ⟨ra, rc, rfl, -⟩ := o235.roArr 8 rfl
          (refine RunVC.store o235 2 rfl ty69 rfl (by first | omega | (simp; omega)) (And.intro ⟨rfl, rfl⟩ ?_); intro m243 o243)
          refine Ar.i64 (by omega) (by omega) ?_
          refine ⟨rfl, ?_⟩
          exact ⟨.inr (.inr (.inr ⟨rfl, tb, td, _, _, _, _, (hR.setT (t' := .slice tb 3 td)).setV 34 (by omega), Own.sel (by assumption) [0, 1, 2, 3, 4, 5, 8] rfl⟩)), by decide⟩
        · refine Br.ff ?_
          refine StillVC.run (StillVC.mkIface (by kernel_rfl) rfl ?_)
          refine RetVC.one rfl ?_
          exact ⟨b90, cs, _, v, w, x, rfl, hR, oh⟩

end Go.Proofs.YtffpaippmfafjaaGreatDoor
