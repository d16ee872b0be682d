/-
  The log: Open, the first part: the sectors are read. The log: Open, the records. The log: Open, the bodies. The log: Open, the heads. The log: Open, the sectors are read.
-/
import Derived.Test.YtfjajkgfgigodaaGreatDoorStructs
import Derived.Test.YtfjajkgfgigodaaGreatDoorVcCut
import Derived.Test.YtfjajkgfgigodaaGreatDoorMLb
/- The log: Open, the first part: the sectors are read. -/
namespace Go.Proofs.YtfjajkgfgigodaaGreatDoor
open Go

theorem look_len {d : Dk} (h : DOK d) {s : Nat} (hs : s < d.st.length) : (d.look s).length = 64 := by
  unfold Dk.look
  cases hl : lastQ d.q s with
  | none => exact h.wf.s64 s hs
  | some t =>
    unfold lastQ at hl
    obtain ⟨p, hp, rfl⟩ := Option.map_eq_some_iff.1 hl
    have := List.mem_of_find?_eq_some hp
    exact (h.q p (List.mem_reverse.1 this)).2

/-- All sectors, as they are read. -/
def allS (d : Dk) (n : Nat) : List (List UInt8) := (List.range n).map d.look

theorem allS_succ (d : Dk) (n : Nat) : allS d (n + 1) = allS d n ++ [d.look n] := by simp [allS, List.range_succ]

theorem allS_len (d : Dk) (n : Nat) : (allS d n).length = n := by simp [allS]

theorem allS_get {d : Dk} {n i : Nat} (h : i < n) : (allS d n)[i]? = some (d.look i) := by simp [allS, h]

/-- What Open leaves. -/
def OpenPost (B : Base) (dp : Nat) (I : Item) (r : Except Int Lg) : Value → Heap → Prop := fun v h' => match r with
  | .error e => v = .tuple ⟨[.pointer none, .slice none 0 0, .int .i64 e]⟩ ∧ Own B [I] h'
  | .ok L => ∃ lp lv rv, v = .tuple ⟨[.pointer (some ⟨lp, 0, none⟩), rv, .int .i64 0]⟩ ∧ Own B (I :: LogI lp dp L lv ++ [row rv 9 1 L.list.length (strs L.list)]) h'

def slots218 : List Nat := List.range 218

theorem slots_mem (i : Nat) (hi : i < 218) : mem slots218 i = true := by
  revert i
  decide +kernel

/-- A state's cells. -/
abbrev stC (s : St) : List Value := [.int .i64 s.num, .int .i64 s.gen, .int .i64 s.len]

theorem parse_spec2 (a half : Nat) (sec : List UInt8) (h : Heap) (ha : a < 4000) (hl : sec.length ≤ 1000) (hh : half ≤ 4000) : SpecR Tryz.prog 45 [.int .i64 a, .string ⟨⟨sec⟩⟩, .int .i64 half] h fun r h' => ∃ s t, r = .tuple ⟨[.agg ⟨stC s⟩, .bool t]⟩ ∧ parseH a sec half = (if t = true then some s else none) ∧ Own h [] h' := by
  have key := parse_spec a half sec h ha hl hh
  cases hq : parseH a sec half with
  | some s =>
    rw [hq] at key
    refine key.mono ?_
    rintro r h' ⟨x, y, rfl, ⟨rfl, rfl⟩, o⟩
    exact ⟨s, true, rfl, rfl, o⟩
  | none =>
    rw [hq] at key
    refine key.mono ?_
    rintro r h' ⟨x, y, rfl, ⟨s, rfl, rfl⟩, o⟩
    exact ⟨s, false, rfl, rfl, o⟩

abbrev openQ (B : Base) (dp : Nat) (I : Item) (r : Except Int Lg) : QQ := endQ Tryz.prog Tryz.f15 (Ret (OpenPost B dp I r))

abbrev openS (dp : Nat) : List Value := [.pointer (some ⟨dp, 0, none⟩)] ++ List.replicate (218 - [Value.pointer (some ⟨dp, 0, none⟩)].length) undef

set_option maxHeartbeats 4000000 in
set_option maxRecDepth 100000 in
theorem open_nil (h : Heap) : SpecR Tryz.prog 15 [.pointer none] h fun v h' => v = .tuple ⟨[.pointer none, .slice none 0 0, .int .i64 1]⟩ ∧ Own h [] h' := by
  refine Spec.enter Tryz.func15 rfl Tryz.ntmps15 (by kernel_rfl) ?_
  have o0 := Own.refl h
  refine RunVC.eqP (by kernel_rfl) rfl rfl ?_
  refine Br.tt ?_
  refine RetVC.three rfl ?_
  exact ⟨rfl, o0⟩

end Go.Proofs.YtfjajkgfgigodaaGreatDoor

/- The log: Open, the records. -/
namespace Go.Proofs.YtfjajkgfgigodaaGreatDoor
open Go

theorem recs_fuel {f g : Nat} {bs : List (List UInt8)} (hf : bs.length ≤ f) (hg : bs.length ≤ g) : recsL f bs = recsL g bs := by
  cases h : recsL f bs with
  | some l =>
    have := (recs_iff hg).2 ((recs_iff hf).1 h)
    rw [this]
  | none =>
    cases h2 : recsL g bs with
    | none => rfl
    | some l =>
      have := (recs_iff hf).2 ((recs_iff hg).1 h2)
      rw [this] at h
      cases h

/-- The records of bodies. -/
def recs (bs : List (List UInt8)) : Option (List (List UInt8)) := recsL bs.length bs

theorem recs_nil : recs [] = some [] := rfl

theorem firstJ_at {bs : List (List UInt8)} {k : Nat} (h1 : 1 ≤ k) (hk : k ≤ bs.length) (he : (joinR (bs.take k)).2 = 0) (hno : ∀ m, 1 ≤ m → m < k → (joinR (bs.take m)).2 ≠ 0) : firstJ bs = some (k - 1) := by
  unfold firstJ
  rw [List.find?_eq_some_iff_getElem]
  refine ⟨by rw [show k - 1 + 1 = k from by omega]; simpa using he, k - 1, by simp; omega, by simp, fun j hj => ?_⟩
  have := hno (j + 1) (by omega) (by omega)
  simpa using this

theorem firstJ_none {bs : List (List UInt8)} (hno : ∀ m, 1 ≤ m → m ≤ bs.length → (joinR (bs.take m)).2 ≠ 0) : firstJ bs = none := by
  unfold firstJ
  rw [List.find?_eq_none]
  intro i hi
  have := hno (i + 1) (by omega) (by have := List.mem_range.1 hi; omega)
  simpa using this

theorem recs_step {bs : List (List UInt8)} {k : Nat} (h1 : 1 ≤ k) (hk : k ≤ bs.length) (he : (joinR (bs.take k)).2 = 0) (hno : ∀ m, 1 ≤ m → m < k → (joinR (bs.take m)).2 ≠ 0) :
    recs bs = (recs (bs.drop k)).map fun l => (joinR (bs.take k)).1 :: l := by
  have hne : bs ≠ [] := fun hx => by rw [hx] at hk; simp at hk; omega
  obtain ⟨f, hf⟩ : ∃ f, bs.length = f + 1 := ⟨bs.length - 1, by omega⟩
  unfold recs
  rw [hf, recsL, if_neg hne, firstJ_at h1 hk he hno]
  simp only
  rw [show k - 1 + 1 = k from by omega, recs_fuel (f := f) (g := (bs.drop k).length) (by rw [List.length_drop]; omega) (Nat.le_refl _)]
  cases recsL (bs.drop k).length (bs.drop k) <;> rfl

theorem recs_bad {bs : List (List UInt8)} (hne : bs ≠ []) (hno : ∀ m, 1 ≤ m → m ≤ bs.length → (joinR (bs.take m)).2 ≠ 0) : recs bs = none := by
  obtain ⟨f, hf⟩ : ∃ f, bs.length = f + 1 := ⟨bs.length - 1, by have := List.length_pos_iff.2 hne; omega⟩
  unfold recs
  rw [hf, recsL, if_neg hne, firstJ_none hno]

/-- What Open says at the end. -/
def openR (s : St) (n a : Nat) (r : Option (List (List UInt8))) : Except Int Lg := match r with
  | none => .error 20
  | some l => .ok ⟨s, n, a, l, false⟩

set_option maxHeartbeats 4000000 in
set_option maxRecDepth 100000 in
theorem open_records (c : Code) (hc : Tryz.f15.body = some c) (B : Base) (dp lp n : Nat) (I : Item) (s : St) (a : Nat) (bs : List (List UInt8)) (xa : Option Addr) (xc : Nat) (junk : Nat → Value) (h4 : Heap) (ht : TabH B.h) (hbl : bs.length ≤ 2000) (hb40 : ∀ b ∈ bs, b.length ≤ 40)
    (o4 : Own B [I, box lp (logC dp ⟨s, n, a, [], false⟩ (.slice none 0 0)) 74, row (.slice xa bs.length xc) 9 1 bs.length (strs bs)] h4) :
    havocK slots218 [8, 14] [.pointer (some ⟨lp, 0, none⟩), .slice xa bs.length xc] junk 0 (openS dp) fun s1 => vcode Tryz.prog (cutPost 3 (cutPost 3 (cutPost 6 c))) (openQ B dp I (openR s n a (recs bs))) s1 h4 := by
  have e := Option.some.inj (hc.symm.trans (rfl : Tryz.f15.body = some _))
  subst e
  simp only [cutPost]
  generalize hR : recs bs = R
  have hRd : Reads (row (.slice xa bs.length xc) 9 1 bs.length (strs bs)) 1 (.slice xa bs.length xc) bs.length (strs bs) := row_reads
  generalize row (.slice xa bs.length xc) 9 1 bs.length (strs bs) = KB at o4 hRd
  have o5 := o4.nilRow 9 1
  simp only [List.cons_append, List.nil_append] at o5
  clear o4
  refine LoopVC.intro [2, 3, 4, 14, 19, 20, 21, 170, 171, 172, 173, 174, 175, 176, 177, 178, 179, 180, 181, 182, 183, 184, 185, 186, 187, 188, 189, 190, 191, 192, 193, 194, 195, 196, 197, 198, 199, 200, 201, 202, 203, 204, 205, 206, 207, 208, 209, 210, 211] [14] (fun vs hh => ∃ (done rest : List (List UInt8)) (ra : Option Addr) (rc : Nat) (la : Option Addr) (lc : Nat), vs = [.slice ra rest.length rc] ∧ R = (recs rest).map (fun l => done ++ l) ∧ Reads KB 1 (.slice ra rest.length rc) rest.length (strs rest) ∧ done.length + rest.length ≤ 2000 ∧ (∀ b ∈ rest, b.length ≤ 40) ∧ Own B [I, box lp [.int .i64 s.num, .int .i64 s.gen, .int .i64 s.len, .pointer (some ⟨dp, 0, none⟩), .int .i64 n, .int .i64 a, .slice la done.length lc, .bool false] 74, KB, row (.slice la done.length lc) 9 1 done.length (strs done)] hh) (fun vs _ => match vs with | [.slice _ n _] => n | _ => 0) ?_ ?_
  · refine ⟨[], bs, xa, xc, none, 0, rfl, ?_, hRd, by simpa using hbl, hb40, o5⟩
    rw [← hR]
    cases recs bs <;> rfl
  · clear o5 hRd
    rintro vs junk2 hh ⟨done, rest, ra, rc, la, lc, rfl, hRr, hRd, hlen, hsh, o⟩
    by_cases hr0 : rest.length = 0
    · have hrn := List.length_eq_zero_iff.1 hr0
      subst hrn
      have hRd2 : R = some done := by rw [hRr, recs_nil]; simp
      rw [hRd2]
      refine StillVC.run (StillVC.lenV rfl sl22 ?_)
      refine Br.ff ?_
      refine StillVC.run (StillVC.nilCheck rfl ?_)
      refine StillVC.run (StillVC.fieldAddr st74 rfl rfl rfl ?_)
      refine StillVC.run (StillVC.loadO o 1 rfl ty22 rfl rfl ?_)
      refine CallVC.ret (clone_spec done _ _ (o.rowArr 3 rfl) (by omega)) ?_
      intro v h5 oc
      have o6 := Own.call o oc
      refine RetVC.three rfl ?_
      exact ⟨lp, .slice la done.length lc, v, rfl, o6.sel [0, 1, 3, 4] rfl⟩
    · have hA := (o.reads 2 hRd rfl).to1
      have hsl : (strs rest).length = rest.length := by simp
      have hfl : rest.flatten.length ≤ 40 * rest.length := flat_le rest hsh
      have hjoin : ∀ (k : Nat) (v : Value) (h5 : Heap), Ext B.h h5 → Arr h5 v (strs (rest.take k)) → SpecR Tryz.prog 49 [v] h5 fun r h' => r = .tuple ⟨[.string ⟨⟨(joinR (rest.take k)).1⟩⟩, .int .i64 (joinR (rest.take k)).2]⟩ ∧ Own h5 [] h' := fun k v h5 he hA5 => by
        have h1 : (rest.take k).length ≤ rest.length := by rw [List.length_take]; omega
        have h2 : (rest.take k).flatten.length ≤ rest.flatten.length := by
          conv => rhs; rw [← List.take_append_drop k rest, List.flatten_append, List.length_append]
          omega
        exact join_seal_spec _ v h5 hA5 (by omega) (by omega) (ht.ext he)
      have htk : ∀ k, List.take k (strs rest) = strs (rest.take k) := fun k => by simp [strs]
      refine StillVC.run (StillVC.lenV rfl sl22 ?_)
      refine Br.dec (fun c61 => ?_) (fun hc => absurd (by omega) hc)
      (refine StillVC.run (StillVC.sliceH sl22 ty9 hA rfl (by omega) (by first | omega | (simp; omega)) ?_); intro v62 a62)
      refine CallVC.ret (hjoin 1 v62 hh o.ext (by rw [← htk]; exact a62)) ?_
      rintro _ h5 ⟨rfl, oc⟩
      have o5 := o.ext' oc
      clear oc o hA a62
      refine LoopVC.intro [19, 20, 21, 180, 181, 182, 183, 184, 185, 186, 187, 188, 189, 190, 191, 192, 193, 194, 195, 196] [19, 20, 21] (fun vs hh => ∃ (k : Nat), 1 ≤ k ∧ k ≤ rest.length ∧ vs = [.int .i64 k, .string ⟨⟨(joinR (rest.take k)).1⟩⟩, .int .i64 (joinR (rest.take k)).2] ∧ (∀ m, 1 ≤ m → m < k → (joinR (rest.take m)).2 ≠ 0) ∧ Own B [I, box lp [.int .i64 s.num, .int .i64 s.gen, .int .i64 s.len, .pointer (some ⟨dp, 0, none⟩), .int .i64 n, .int .i64 a, .slice la done.length lc, .bool false] 74, KB, row (.slice la done.length lc) 9 1 done.length (strs done)] hh) (fun vs _ => match vs with | [.int _ k, _, _] => rest.length - k.toNat | _ => 0) ?_ ?_
      · exact ⟨1, by omega, by omega, rfl, fun m h1 h2 => by omega, o5⟩
      · clear o5
        rintro vs junk3 hh2 ⟨k, hk1, hk2, rfl, hno, o⟩
        have hA := (o.reads 2 hRd rfl).to1
        by_cases he : (joinR (rest.take k)).2 = 0
        · clear hA
          refine Br.ndec (fun hc => absurd (by first | omega | assumption | decide | exact rfl) hc) (fun c100 => ?_)
          refine Br.ff ?_
          refine Br.ndec (fun hc => absurd (by first | omega | assumption | decide | exact rfl) hc) (fun c101 => ?_)
          refine StillVC.run (StillVC.nilCheck rfl ?_)
          refine StillVC.run (StillVC.fieldAddr st74 rfl rfl rfl ?_)
          refine StillVC.run (StillVC.loadO o 1 rfl ty22 rfl rfl ?_)
          (refine RunVC.lit o sl22 ty9 rfl rfl (by decide) (And.intro rfl ?_); intro b105 m105 o105)
          (refine RunVC.append o105 3 rfl sl22 ty9 (by decide) (o105.boxArr 4 rfl (by simp) (by simp)).toN (by simp [Value.oneCell']) (by simp only [maxLen]; first | omega | (simp; omega)) (by first | omega | (simp; omega)) ?_; intro v106 m106 o106)
          refine StillVC.run (StillVC.nilCheck rfl ?_)
          refine StillVC.run (StillVC.fieldAddr st74 rfl rfl rfl ?_)
          obtain ⟨wa, wc, rfl⟩ := o106.rowIs 3 rfl
          (refine RunVC.store o106 1 rfl ty22 rfl (by simp) (And.intro ⟨rfl, rfl⟩ ?_); intro m110 o110)
          refine (StillVC.sliceTok sl22 ty9 hRd (o110.satK 2 rfl) rfl (by omega) (by omega) ?_).run
          intro v200 a200
          have e1 : rest.length - (k : Int).toNat = (rest.drop k).length := by rw [List.length_drop]; rfl
          have e2 : (strs rest).drop ((k : Int).toNat * 1) = strs (rest.drop k) := by simp [strs]
          have a201 : Reads KB 1 v200 (rest.drop k).length (strs (rest.drop k)) := by rw [← e1, ← e2]; exact a200
          clear a200
          obtain ⟨qa, qc, rfl⟩ := a201.isS (o110.satK 2 rfl)
          refine ⟨rfl, ?_⟩
          refine ⟨⟨done ++ [(joinR (rest.take k)).1], rest.drop k, qa, qc, wa, wc, rfl, ?_, a201, ?_, fun b hb => hsh b (List.mem_of_mem_drop hb), ?_⟩, ?_⟩
          · rw [hRr, recs_step hk1 hk2 he hno]
            cases recs (rest.drop k) with
            | none => rfl
            | some l => simp
          · rw [List.length_append, List.length_drop, List.length_singleton]; omega
          · rw [app_strs, List.length_append]
            exact o110.sel [0, 1, 2, 3] rfl
          · simp only [List.length_drop]; omega
        · by_cases hkl : k < rest.length
          · refine Br.ndec (fun c120 => ?_) (fun hc => absurd hc (by first | omega | assumption | decide | exact rfl))
            refine StillVC.run (StillVC.lenV rfl sl22 ?_)
            refine Br.dec (fun c122 => ?_) (fun hc => absurd (by omega) hc)
            refine Ar.i64 (by omega) (by omega) ?_
            (refine StillVC.run (StillVC.sliceH sl22 ty9 hA rfl (by omega) (by first | omega | (simp; omega)) ?_); intro v123 a123)
            have ek : ((k : Int) + 1).toNat = k + 1 := by omega
            rw [ek, htk] at a123
            refine CallVC.ret (hjoin (k + 1) v123 hh2 o.ext a123) ?_
            rintro _ h7 ⟨rfl, oc⟩
            have o7 := o.ext' oc
            clear oc o hA a123
            refine ⟨rfl, ?_⟩
            refine ⟨⟨k + 1, by omega, by omega, by simp, fun m h1 h2 => ?_, o7⟩, by simp only; omega⟩
            by_cases hm : m = k
            · rw [hm]; exact he
            · exact hno m h1 (by omega)
          · obtain rfl : k = rest.length := by omega
            clear hA
            have hbad : R = none := by
              rw [hRr, recs_bad (fun hx => hr0 (by rw [hx]; rfl)) (fun m h1 h2 => by
                by_cases hm : m = rest.length
                · rw [hm]; exact he
                · exact hno m h1 (by omega))]
              rfl
            rw [hbad]
            refine Br.ndec (fun c140 => ?_) (fun hc => absurd hc (by first | omega | assumption | decide | exact rfl))
            refine StillVC.run (StillVC.lenV rfl sl22 ?_)
            refine Br.dec (fun hc => absurd hc (by omega)) (fun c142 => ?_)
            refine Br.ndec (fun c143 => ?_) (fun hc => absurd hc (by first | omega | assumption | decide | exact rfl))
            refine RetVC.three rfl ?_
            exact ⟨rfl, o.sel [0] rfl⟩

end Go.Proofs.YtfjajkgfgigodaaGreatDoor

/- The log: Open, the bodies. -/
namespace Go.Proofs.YtfjajkgfgigodaaGreatDoor
open Go

theorem bods_none {f : Nat → List UInt8} {gen frm i : Nat} : ∀ {k : Nat}, i ≤ k → bodsL f gen frm i = none → bodsL f gen frm k = none
  | 0, h, hn => by
    obtain rfl : i = 0 := by omega
    exact hn
  | k + 1, h, hn => by
    by_cases hk : i = k + 1
    · subst hk; exact hn
    · rw [bodsL, bods_none (k := k) (by omega) hn]

set_option maxHeartbeats 4000000 in
set_option maxRecDepth 100000 in
theorem open_bodies (c : Code) (hc : Tryz.f15.body = some c) (B : Base) (dp lp n : Nat) (I : Item) (f : Nat → List UInt8) (all : List (List UInt8)) (s : St) (a : Nat) (va : Option Addr) (vc : Nat) (junk2 : Nat → Value) (h2 : Heap) (ht : TabH B.h) (h6 : 6 ≤ n) (hn4 : n ≤ 4000) (hlk : ∀ s, s < n → (f s).length = 64) (hal : all.length = n) (hag : ∀ i, i < n → all[i]? = some (f i))
    (hpk : pickH f (halfN n) = some (s, a))
    (o2 : Own B [I, row (.slice va n vc) 9 1 n (strs all), box lp (logC dp ⟨s, n, a, [], false⟩ (.slice none 0 0)) 74] h2) :
    havocK slots218 [5, 8] [.slice va n vc, .pointer (some ⟨lp, 0, none⟩)] junk2 0 (openS dp) fun s1 => vcode Tryz.prog (cutPost 3 (cutPost 6 c)) (openQ B dp I (openF f n)) s1 h2 := by
  obtain ⟨hfit, hsl, hat⟩ := pick_fits hpk
  have hst := start_le n s.gen h6
  have hhf : 2 ≤ halfN n := by unfold halfN; omega
  have hopf : openF f n = match bodsL f s.gen (startN n s.gen) s.len with
      | none => .error 20
      | some bs => openR s n a (recs bs) := by
    unfold openF
    rw [if_neg (by omega), hpk]
    rfl
  rw [hopf]
  refine vcode_cutK 3 slots218 [8, 14] (fun vs h => ∃ v14 bs, vs = [.pointer (some ⟨lp, 0, none⟩), v14] ∧ bodsL f s.gen (startN n s.gen) s.len = some bs ∧ Own B [I, box lp (logC dp ⟨s, n, a, [], false⟩ (.slice none 0 0)) 74, row v14 9 1 bs.length (strs bs)] h) (fun i hi => slots_mem i (by simpa using hi)) ?_ ?_
  · have e := Option.some.inj (hc.symm.trans (rfl : Tryz.f15.body = some _))
    subst e
    simp only [cutPost, cutPre]
    have hgen := hfit.gen
    refine StillVC.run (StillVC.nilCheck rfl ?_)
    refine StillVC.run (StillVC.fieldAddr st74 rfl rfl rfl ?_)
    refine StillVC.run (StillVC.fieldAddr st72 rfl rfl rfl ?_)
    refine StillVC.run (StillVC.loadO o2 2 rfl ty3 rfl rfl ?_)
    refine CallVC.ret (start_spec' lp n s.gen _ (o2.cellB 2 rfl 4) (by omega) hn4 (by omega)) ?_
    rintro _ h3 ⟨rfl, oc⟩
    have o3 : Own B [I, row (.slice va n vc) 9 1 n (strs all), box lp [.int .i64 s.num, .int .i64 s.gen, .int .i64 s.len, .pointer (some ⟨dp, 0, none⟩), .int .i64 n, .int .i64 a, .slice none 0 0, .bool false] 74] h3 := o2.ext' oc
    clear oc o2
    have hasl : (strs all).length = n := by simpa using hal
    refine StillVC.run (StillVC.nilCheck rfl ?_)
    refine StillVC.run (StillVC.fieldAddr st74 rfl rfl rfl ?_)
    refine StillVC.run (StillVC.fieldAddr st72 rfl rfl rfl ?_)
    refine StillVC.run (StillVC.loadO o3 2 rfl ty3 rfl rfl ?_)
    refine Ar.i64 (by omega) (by omega) ?_
    (refine StillVC.run (StillVC.sliceLH sl22 ty9 (o3.rowArr 1 rfl) rfl rfl (by omega) (by omega) (by first | omega | (simp; omega)) ?_); intro v44 a44)
    refine StillVC.run (StillVC.lenA a44 sl22 ?_)
    have ep : List.take (((startN n s.gen : Int) + (s.len : Int)).toNat - ((startN n s.gen : Nat) : Int).toNat) (List.drop ((startN n s.gen : Nat) : Int).toNat (strs all)) = strs ((all.drop (startN n s.gen)).take s.len) := by
      have e1 : ((startN n s.gen : Int) + (s.len : Int)).toNat - ((startN n s.gen : Nat) : Int).toNat = s.len := by omega
      rw [e1]
      simp [strs]
    rw [ep] at a44 ⊢
    have hpg : ∀ i, i < s.len → ((all.drop (startN n s.gen)).take s.len)[i]? = some (f (startN n s.gen + i)) := fun i hi => by
      rw [List.getElem?_take, if_pos hi, List.getElem?_drop]
      exact hag _ (by omega)
    have hpl : ((all.drop (startN n s.gen)).take s.len).length = s.len := by rw [List.length_take, List.length_drop]; omega
    generalize (all.drop (startN n s.gen)).take s.len = piece at a44 hpg hpl ⊢
    have hpl2 : (strs piece).length = s.len := by simpa using hpl
    have oN := (Own.refl h3).nilRow 9 1
    simp only [List.nil_append] at oN
    refine LoopVC.intro [2, 3, 4, 14, 15, 16, 17, 18, 145, 146, 147, 148, 149, 150, 151, 152, 153, 154, 155, 156, 157, 158, 159, 160, 161, 162, 163, 164, 165, 166, 167, 168, 169] [14, 145] (fun vs hh => ∃ (i : Nat) (v14 : Value) (bs : List (List UInt8)), i ≤ s.len ∧ vs = [v14, .int .i64 i] ∧ bodsL f s.gen (startN n s.gen) i = some bs ∧ bs.length = i ∧ Own ⟨h3, []⟩ [row v14 9 1 i (strs bs)] hh) (fun vs _ => match vs with | [_, .int _ i] => s.len - i.toNat | _ => 0) ?_ ?_
    · exact ⟨0, _, [], by omega, rfl, rfl, rfl, oN⟩
    · clear oN
      rintro vs junk4 hh ⟨i, v14, bs, hi, rfl, hbs, hbl, o⟩
      obtain ⟨xa, xc, rfl⟩ := o.rowIs 0 rfl
      have hbsl : (strs bs).length = i := by simpa using hbl
      have hgenC : cellAt hh ⟨lp, 1, none⟩ = some (.int .i64 s.gen) := o.ext.cell (o3.cellB 2 rfl 1)
      have aP := a44.ext o.ext
      by_cases hlt : i < s.len
      · have hx := hpg i hlt
        have hfl := hlk (startN n s.gen + i) (by omega)
        have eC : (startN n s.gen : Int) + (i : Int) = ((startN n s.gen + i : Nat) : Int) := by omega
        have hb1 : bodsL f s.gen (startN n s.gen) (i + 1) = if (getR s.gen ((startN n s.gen : Int) + (i : Int)) (f (startN n s.gen + i))).2 = 0 then some (bs ++ [(getR s.gen ((startN n s.gen : Int) + (i : Int)) (f (startN n s.gen + i))).1]) else none := by
          rw [eC, bodsL, hbs]
        refine Br.dec (fun c60 => ?_) (fun hc => absurd (by omega) hc)
        refine StillVC.run (StillVC.idx sl22 ty9 aP rfl (by omega) (by omega) ?_)
        refine StillVC.run (StillVC.loadM aP ty9 rfl (by first | assumption | rfl) ?_)
        refine StillVC.run (StillVC.nilCheck rfl ?_)
        refine StillVC.run (StillVC.fieldAddr st74 rfl rfl rfl ?_)
        refine StillVC.run (StillVC.fieldAddr st72 rfl rfl rfl ?_)
        refine StillVC.run (StillVC.load1 ty3 rfl (by assumption) ?_)
        refine Ar.i64 (by omega) (by omega) ?_
        have hg := get_spec s.gen ((startN n s.gen : Int) + (i : Int)) (f (startN n s.gen + i)) hh (by omega)
        generalize getR s.gen ((startN n s.gen : Int) + (i : Int)) (f (startN n s.gen + i)) = g at hb1 hg
        obtain ⟨b, e⟩ := g
        simp only at hb1 hg
        refine CallVC.ret hg ?_
        clear hg
        rintro _ h5 ⟨rfl, oc⟩
        have o5 := o.ext' oc
        clear oc o aP
        by_cases he : e = 0
        · rw [if_pos he] at hb1
          refine Br.ndec (fun hc => absurd (by first | omega | assumption | decide | exact rfl) hc) (fun c80 => ?_)
          (refine RunVC.lit o5 sl22 ty9 rfl rfl (by decide) (And.intro rfl ?_); intro b81 m81 o81)
          (refine RunVC.append o81 0 rfl sl22 ty9 (by decide) (o81.boxArr 1 rfl (by simp) (by simp)).toN (by simp [Value.oneCell']) (by simp only [maxLen]; first | omega | (simp; omega)) (by first | omega | (simp; omega)) ?_; intro v82 m82 o82)
          refine Ar.i64 (by omega) (by omega) ?_
          refine ⟨rfl, ?_⟩
          refine ⟨⟨i + 1, v82, bs ++ [b], by omega, by simp, hb1, by simp [hbl], ?_⟩, by simp only; omega⟩
          rw [app_strs]
          exact o82.sel [0] rfl
        · rw [if_neg he] at hb1
          refine Br.ndec (fun c80 => ?_) (fun hc => absurd hc (by first | omega | assumption | decide | exact rfl))
          refine RetVC.three rfl ?_
          rw [bods_none (by omega) hb1]
          exact ⟨rfl, (Own.call o3 o5).sel [0] rfl⟩
      · obtain rfl : i = s.len := by omega
        refine Br.dec (fun hc => absurd hc (by omega)) (fun c100 => ?_)
        refine ⟨rfl, ?_⟩
        refine ⟨_, bs, rfl, hbs, ?_⟩
        rw [hbl]
        exact (Own.call o3 o).sel [0, 2, 3] rfl
  · rintro vs junk3 h4 ⟨v14, bs, rfl, hbs, o4⟩
    obtain ⟨xa, xc, rfl⟩ := o4.rowIs 2 rfl
    have hr : (match bodsL f s.gen (startN n s.gen) s.len with
        | none => .error 20
        | some bs => openR s n a (recs bs) : Except Int Lg) = openR s n a (recs bs) := by rw [hbs]
    rw [hr]
    have hbi := (bods_iff (by have := hfit.gen; omega) (by omega)).1 hbs
    refine open_records c hc B dp lp n I s a bs xa xc junk3 h4 ht (by have : halfN n ≤ 2000 := by { unfold halfN; omega }; omega) (fun b hb => ?_) o4
    obtain ⟨i, hi⟩ := List.mem_iff_getElem?.1 hb
    exact (hbi.2 i b hi).1

end Go.Proofs.YtfjajkgfgigodaaGreatDoor

/- The log: Open, the heads. -/
namespace Go.Proofs.YtfjajkgfgigodaaGreatDoor
open Go

set_option maxHeartbeats 4000000 in
set_option maxRecDepth 100000 in
theorem open_heads (c : Code) (hc : Tryz.f15.body = some c) (B : Base) (dp lp n : Nat) (I : Item) (f : Nat → List UInt8) (all : List (List UInt8)) (va : Option Addr) (vc : Nat) (junk : Nat → Value) (h1 : Heap) (ht : TabH B.h) (h6 : 6 ≤ n) (hn4 : n ≤ 4000) (hlk : ∀ s, s < n → (f s).length = 64) (hal : all.length = n) (hag : ∀ i, i < n → all[i]? = some (f i))
    (o1 : Own B [I, row (.slice va n vc) 9 1 n (strs all), box lp (logC dp ⟨⟨0, 0, 0⟩, n, 0, [], false⟩ (.slice none 0 0)) 74] h1) :
    havocK slots218 [5, 8] [.slice va n vc, .pointer (some ⟨lp, 0, none⟩)] junk 0 (openS dp) fun s1 => vcode Tryz.prog (cutPost 6 c) (openQ B dp I (openF f n)) s1 h1 := by
  refine vcode_cutK 3 slots218 [5, 8] (fun vs h => ∃ v5 s a, vs = [v5, .pointer (some ⟨lp, 0, none⟩)] ∧ pickH f (halfN n) = some (s, a) ∧ Own B [I, row v5 9 1 n (strs all), box lp (logC dp ⟨s, n, a, [], false⟩ (.slice none 0 0)) 74] h) (fun i hi => slots_mem i (by simpa using hi)) ?_ ?_
  · have e := Option.some.inj (hc.symm.trans (rfl : Tryz.f15.body = some _))
    subst e
    simp only [cutPost, cutPre]
    refine DrawVC.join [9, 10, 48, 49, 50, 51, 52, 53, 54, 55, 56] [9, 10] (fun vs h' => ∃ b9 s t, vs = [.pointer (some ⟨b9, 0, none⟩), .bool t] ∧ parseH 0 (f 0) (halfN n) = (if t = true then some s else none) ∧ Own B [I, row (.slice va n vc) 9 1 n (strs all), box lp (logC dp ⟨⟨0, 0, 0⟩, n, 0, [], false⟩ (.slice none 0 0)) 74, box b9 (stC s) 72] h') ?_ ?_
    · skip
      have hh2 : halfN n ≤ 4000 := by unfold halfN; omega
      have hA1 := o1.rowArr 1 rfl
      have hx : (all)[0]? = some (f 0) := hag 0 (by omega)
      have hl0 := hlk 0 (by omega)
      refine DrawVC.introMT [0, 1, 3, 6, 7, 8, 11] [2] [10] (.one 0 (.one 1 (.one 2 (.one 3 (.fork 4 9 (.fork 5 9 (.one 6 (.one 7 (.one 8 (.one 9 (.one 10 (.one 11 .done)))))) (.one 5 (.one 6 (.one 7 (.one 8 (.one 10 (.one 11 .done))))))) (.one 4 (.one 5 (.one 6 (.one 7 (.one 8 (.one 10 (.one 11 .done)))))))))))) mixed (by kernel_rfl) rfl (fun _ _ _ _ h => h) ?_
      refine StillVC.idx sl22 ty9 hA1 rfl (by omega) (by first | omega | (simp; omega)) ?_
      refine StillVC.toM ?_
      refine StillVC.loadM hA1 ty9 rfl (by first | assumption | rfl) ?_
      refine And.intro ?_ ?_
      · refine CallVC.ret (half_spec lp n _ (o1.cellB 2 rfl 4) (by omega) hn4) ?_
        rintro _ h2 ⟨rfl, oc⟩
        refine And.intro (.inr ⟨Ext.refl _, oc.ext⟩) ?_
        refine And.intro ?_ ?_
        · refine CallVC.ret (parse_spec2 0 (halfN n) (f 0) _ (by omega) (by omega) hh2) ?_
          rintro _ h3 ⟨s, t, rfl, hp, oc3⟩
          have oz : Own ⟨h1, []⟩ [] h3 := oc.ext' oc3
          clear oc3
          refine And.intro (.inr ⟨oc.ext, oz.ext⟩) ?_
          (refine RunVC.alloc oz ty72 ?_; intro b50 m50 o50)
          refine And.intro (.inr ⟨oz.ext, o50.ext⟩) ?_
          (refine RunVC.storeL o50 0 rfl ty72 rfl (by decide) (And.intro ⟨rfl, rfl⟩ ?_); intro m51 o51)
          refine ⟨rfl, ?_⟩
          exact ⟨_, s, t, rfl, hp, Own.call o1 (by assumption)⟩
        · (refine RunVC.alloc oc ty72 ?_; intro b60 m60 o60)
          refine And.intro (.inr ⟨oc.ext, o60.ext⟩) ?_
          refine CallVC.ret (parse_spec2 0 (halfN n) (f 0) _ (by omega) (by omega) hh2) ?_
          rintro _ h3 ⟨s, t, rfl, hp, oc3⟩
          have oz := oc3.thenE (by assumption : Own ⟨h1, []⟩ _ _)
          clear oc3
          refine And.intro (.inr ⟨o60.ext, oz.ext⟩) ?_
          (refine RunVC.storeL oz 0 rfl ty72 rfl (by decide) (And.intro ⟨rfl, rfl⟩ ?_); intro m70 o70)
          refine ⟨rfl, ?_⟩
          exact ⟨_, s, t, rfl, hp, Own.call o1 (by assumption)⟩
      · (refine RunVC.alloc (Own.refl _) ty72 ?_; intro b80 m80 o80)
        refine And.intro (.inr ⟨Ext.refl _, o80.ext⟩) ?_
        refine CallVC.ret (half_spec lp n _ ((Own.ext (B := ⟨h1, []⟩) (by assumption)).cell (o1.cellB 2 rfl 4)) (by omega) hn4) ?_
        rintro _ h2 ⟨rfl, oc2⟩
        have oy := oc2.thenE (by assumption : Own ⟨h1, []⟩ _ _)
        clear oc2
        refine And.intro (.inr ⟨o80.ext, oy.ext⟩) ?_
        refine CallVC.ret (parse_spec2 0 (halfN n) (f 0) _ (by omega) (by omega) hh2) ?_
        rintro _ h3 ⟨s, t, rfl, hp, oc3⟩
        have oz := oc3.thenE (by assumption : Own ⟨h1, []⟩ _ _)
        clear oc3
        refine And.intro (.inr ⟨oy.ext, oz.ext⟩) ?_
        (refine RunVC.storeL oz 0 rfl ty72 rfl (by decide) (And.intro ⟨rfl, rfl⟩ ?_); intro m100 o100)
        refine ⟨rfl, ?_⟩
        exact ⟨_, s, t, rfl, hp, Own.call o1 (by assumption)⟩
    · rintro vs2 junk2 h5 ⟨b9, s1, t1, rfl, hp1, o5⟩
      clear o1
      refine DrawVC.join [11, 12, 57, 58, 59, 60, 61, 62, 63, 64, 65] [11, 12] (fun vs h' => ∃ b11 s t, vs = [.pointer (some ⟨b11, 0, none⟩), .bool t] ∧ parseH 1 (f 1) (halfN n) = (if t = true then some s else none) ∧ Own B [I, row (.slice va n vc) 9 1 n (strs all), box lp (logC dp ⟨⟨0, 0, 0⟩, n, 0, [], false⟩ (.slice none 0 0)) 74, box b9 (stC s1) 72, box b11 (stC s) 72] h') ?_ ?_
      · have hh2 : halfN n ≤ 4000 := by unfold halfN; omega
        have hA1 := o5.rowArr 1 rfl
        have hx : (all)[1]? = some (f 1) := hag 1 (by omega)
        have hl0 := hlk 1 (by omega)
        refine DrawVC.introMT [0, 1, 3, 6, 7, 8, 11] [2] [10] (.one 0 (.one 1 (.one 2 (.one 3 (.fork 4 9 (.fork 5 9 (.one 6 (.one 7 (.one 8 (.one 9 (.one 10 (.one 11 .done)))))) (.one 5 (.one 6 (.one 7 (.one 8 (.one 10 (.one 11 .done))))))) (.one 4 (.one 5 (.one 6 (.one 7 (.one 8 (.one 10 (.one 11 .done)))))))))))) mixed (by kernel_rfl) rfl (fun _ _ _ _ h => h) ?_
        refine StillVC.idx sl22 ty9 hA1 rfl (by omega) (by first | omega | (simp; omega)) ?_
        refine StillVC.toM ?_
        refine StillVC.loadM hA1 ty9 rfl (by first | assumption | rfl) ?_
        refine And.intro ?_ ?_
        · refine CallVC.ret (half_spec lp n _ (o5.cellB 2 rfl 4) (by omega) hn4) ?_
          rintro _ h2 ⟨rfl, oc⟩
          refine And.intro (.inr ⟨Ext.refl _, oc.ext⟩) ?_
          refine And.intro ?_ ?_
          · refine CallVC.ret (parse_spec2 1 (halfN n) (f 1) _ (by omega) (by omega) hh2) ?_
            rintro _ h3 ⟨s, t, rfl, hp, oc3⟩
            have oz : Own ⟨h5, []⟩ [] h3 := oc.ext' oc3
            clear oc3
            refine And.intro (.inr ⟨oc.ext, oz.ext⟩) ?_
            (refine RunVC.alloc oz ty72 ?_; intro b230 m230 o230)
            refine And.intro (.inr ⟨oz.ext, o230.ext⟩) ?_
            (refine RunVC.storeL o230 0 rfl ty72 rfl (by decide) (And.intro ⟨rfl, rfl⟩ ?_); intro m231 o231)
            refine ⟨rfl, ?_⟩
            exact ⟨_, s, t, rfl, hp, Own.call o5 (by assumption)⟩
          · (refine RunVC.alloc oc ty72 ?_; intro b240 m240 o240)
            refine And.intro (.inr ⟨oc.ext, o240.ext⟩) ?_
            refine CallVC.ret (parse_spec2 1 (halfN n) (f 1) _ (by omega) (by omega) hh2) ?_
            rintro _ h3 ⟨s, t, rfl, hp, oc3⟩
            have oz := oc3.thenE (by assumption : Own ⟨h5, []⟩ _ _)
            clear oc3
            refine And.intro (.inr ⟨o240.ext, oz.ext⟩) ?_
            (refine RunVC.storeL oz 0 rfl ty72 rfl (by decide) (And.intro ⟨rfl, rfl⟩ ?_); intro m250 o250)
            refine ⟨rfl, ?_⟩
            exact ⟨_, s, t, rfl, hp, Own.call o5 (by assumption)⟩
        · (refine RunVC.alloc (Own.refl _) ty72 ?_; intro b260 m260 o260)
          refine And.intro (.inr ⟨Ext.refl _, o260.ext⟩) ?_
          refine CallVC.ret (half_spec lp n _ ((Own.ext (B := ⟨h5, []⟩) (by assumption)).cell (o5.cellB 2 rfl 4)) (by omega) hn4) ?_
          rintro _ h2 ⟨rfl, oc2⟩
          have oy := oc2.thenE (by assumption : Own ⟨h5, []⟩ _ _)
          clear oc2
          refine And.intro (.inr ⟨o260.ext, oy.ext⟩) ?_
          refine CallVC.ret (parse_spec2 1 (halfN n) (f 1) _ (by omega) (by omega) hh2) ?_
          rintro _ h3 ⟨s, t, rfl, hp, oc3⟩
          have oz := oc3.thenE (by assumption : Own ⟨h5, []⟩ _ _)
          clear oc3
          refine And.intro (.inr ⟨oy.ext, oz.ext⟩) ?_
          (refine RunVC.storeL oz 0 rfl ty72 rfl (by decide) (And.intro ⟨rfl, rfl⟩ ?_); intro m280 o280)
          refine ⟨rfl, ?_⟩
          exact ⟨_, s, t, rfl, hp, Own.call o5 (by assumption)⟩
      · rintro vs3 junk3 h7 ⟨b11, s2, t2, rfl, hp2, o7⟩
        clear o5
        have hA0 := o7.rowArr 1 rfl
        have hx0 : all[0]? = some (f 0) := hag 0 (by omega)
        have hx1 : all[1]? = some (f 1) := hag 1 (by omega)
        have hzl : zS = [0, 0, 0, 0, 0, 0, 0, 0, 0, 0, 0, 0, 0, 0, 0, 0, 0, 0, 0, 0, 0, 0, 0, 0, 0, 0, 0, 0, 0, 0, 0, 0, 0, 0, 0, 0, 0, 0, 0, 0, 0, 0, 0, 0, 0, 0, 0, 0, 0, 0, 0, 0, 0, 0, 0, 0, 0, 0, 0, 0, 0, 0, 0, 0] := rfl
        have bad : pickH f (halfN n) = none → OpenPost B dp I (openF f n) (.tuple ⟨[.pointer none, .slice none 0 0, .int .i64 20]⟩) h7 := fun hx => by
          have : openF f n = .error 20 := by unfold openF; rw [if_neg (by omega), hx]
          rw [this]
          exact ⟨rfl, o7.sel [0] rfl⟩
        have hpk : pickH f (halfN n) = match (if t1 = true then some s1 else none), (if t2 = true then some s2 else none) with
          | some a, some b => if a.num = b.num ∧ ¬ (a.gen = b.gen ∧ a.len = b.len) then none else if b.num ≤ a.num then some (a, 0) else some (b, 1)
          | some a, none => some (a, 0)
          | none, some b => some (b, 1)
          | none, none => if f 0 ≠ zS ∧ f 1 ≠ zS then none else some (⟨0, 0, 0⟩, 0) := by
          rw [← hp1, ← hp2]
          rfl
        clear hp1 hp2 hag hlk
        cases t1 with
        | true =>
          cases t2 with
          | true =>
            simp only [if_true] at hpk
            by_cases hnn : s1.num = s2.num
            · by_cases hgl : s1.gen = s2.gen ∧ s1.len = s2.len
              · rw [if_neg (fun hx => hx.2 hgl), if_pos (by omega)] at hpk
                refine Br.tt ?_
                refine Br.tt ?_
                refine StillVC.run (StillVC.fieldAddr st72 rfl rfl rfl ?_)
                refine StillVC.run (StillVC.loadO o7 3 rfl ty3 rfl rfl ?_)
                refine StillVC.run (StillVC.fieldAddr st72 rfl rfl rfl ?_)
                refine StillVC.run (StillVC.loadO o7 4 rfl ty3 rfl rfl ?_)
                refine Br.dec (fun c304 => ?_) (fun hc => absurd (by omega) hc)
                refine StillVC.run (StillVC.loadON o7 3 rfl ty72 rfl rfl rfl ?_)
                refine StillVC.run (StillVC.loadON o7 4 rfl ty72 rfl rfl rfl ?_)
                refine StillVC.run (StillVC.neS pl72 rfl rfl rfl rfl ?_)
                refine Br.ffE (by first | omega | (simp; omega)) ?_
                refine Br.ff ?_
                refine Br.ff ?_
                refine Br.tt ?_
                refine Br.ff ?_
                refine StillVC.run (StillVC.fieldAddr st72 rfl rfl rfl ?_)
                refine StillVC.run (StillVC.loadO o7 3 rfl ty3 rfl rfl ?_)
                refine StillVC.run (StillVC.fieldAddr st72 rfl rfl rfl ?_)
                refine StillVC.run (StillVC.loadO o7 4 rfl ty3 rfl rfl ?_)
                refine Br.dec (fun c313 => ?_) (fun hc => absurd (by omega) hc)
                refine StillVC.run (StillVC.loadON o7 3 rfl ty72 rfl rfl rfl ?_)
                refine StillVC.run (StillVC.nilCheck rfl ?_)
                refine StillVC.run (StillVC.fieldAddr st74 rfl rfl rfl ?_)
                (refine RunVC.store o7 2 rfl ty72 rfl (by simp) (And.intro ⟨rfl, rfl⟩ ?_); intro m317 o317)
                refine ⟨rfl, ?_⟩
                exact ⟨_, s1, 0, rfl, hpk, Own.sel (by assumption) [0, 1, 2] rfl⟩
              · rw [if_pos ⟨hnn, hgl⟩] at hpk
                refine Br.tt ?_
                refine Br.tt ?_
                refine StillVC.run (StillVC.fieldAddr st72 rfl rfl rfl ?_)
                refine StillVC.run (StillVC.loadO o7 3 rfl ty3 rfl rfl ?_)
                refine StillVC.run (StillVC.fieldAddr st72 rfl rfl rfl ?_)
                refine StillVC.run (StillVC.loadO o7 4 rfl ty3 rfl rfl ?_)
                refine Br.dec (fun c304 => ?_) (fun hc => absurd (by omega) hc)
                refine StillVC.run (StillVC.loadON o7 3 rfl ty72 rfl rfl rfl ?_)
                refine StillVC.run (StillVC.loadON o7 4 rfl ty72 rfl rfl rfl ?_)
                refine StillVC.run (StillVC.neS pl72 rfl rfl rfl rfl ?_)
                refine Br.ttE (by first | omega | (simp; omega)) ?_
                refine Br.ttE (by first | omega | (simp; omega)) ?_
                refine RetVC.three rfl ?_
                exact bad hpk
            · rw [if_neg (fun hx => hnn hx.1)] at hpk
              by_cases hle : s2.num ≤ s1.num
              · rw [if_pos hle] at hpk
                refine Br.tt ?_
                refine Br.tt ?_
                refine StillVC.run (StillVC.fieldAddr st72 rfl rfl rfl ?_)
                refine StillVC.run (StillVC.loadO o7 3 rfl ty3 rfl rfl ?_)
                refine StillVC.run (StillVC.fieldAddr st72 rfl rfl rfl ?_)
                refine StillVC.run (StillVC.loadO o7 4 rfl ty3 rfl rfl ?_)
                refine Br.dec (fun hc => absurd hc (by omega)) (fun c304 => ?_)
                refine Br.ff ?_
                refine Br.ff ?_
                refine Br.ff ?_
                refine Br.tt ?_
                refine Br.ff ?_
                refine StillVC.run (StillVC.fieldAddr st72 rfl rfl rfl ?_)
                refine StillVC.run (StillVC.loadO o7 3 rfl ty3 rfl rfl ?_)
                refine StillVC.run (StillVC.fieldAddr st72 rfl rfl rfl ?_)
                refine StillVC.run (StillVC.loadO o7 4 rfl ty3 rfl rfl ?_)
                refine Br.dec (fun c309 => ?_) (fun hc => absurd (by omega) hc)
                refine StillVC.run (StillVC.loadON o7 3 rfl ty72 rfl rfl rfl ?_)
                refine StillVC.run (StillVC.nilCheck rfl ?_)
                refine StillVC.run (StillVC.fieldAddr st74 rfl rfl rfl ?_)
                (refine RunVC.store o7 2 rfl ty72 rfl (by simp) (And.intro ⟨rfl, rfl⟩ ?_); intro m313 o313)
                refine ⟨rfl, ?_⟩
                exact ⟨_, s1, 0, rfl, hpk, Own.sel (by assumption) [0, 1, 2] rfl⟩
              · rw [if_neg hle] at hpk
                refine Br.tt ?_
                refine Br.tt ?_
                refine StillVC.run (StillVC.fieldAddr st72 rfl rfl rfl ?_)
                refine StillVC.run (StillVC.loadO o7 3 rfl ty3 rfl rfl ?_)
                refine StillVC.run (StillVC.fieldAddr st72 rfl rfl rfl ?_)
                refine StillVC.run (StillVC.loadO o7 4 rfl ty3 rfl rfl ?_)
                refine Br.dec (fun hc => absurd hc (by omega)) (fun c304 => ?_)
                refine Br.ff ?_
                refine Br.ff ?_
                refine Br.ff ?_
                refine Br.tt ?_
                refine Br.ff ?_
                refine StillVC.run (StillVC.fieldAddr st72 rfl rfl rfl ?_)
                refine StillVC.run (StillVC.loadO o7 3 rfl ty3 rfl rfl ?_)
                refine StillVC.run (StillVC.fieldAddr st72 rfl rfl rfl ?_)
                refine StillVC.run (StillVC.loadO o7 4 rfl ty3 rfl rfl ?_)
                refine Br.dec (fun hc => absurd hc (by omega)) (fun c309 => ?_)
                refine Br.tt ?_
                refine StillVC.run (StillVC.loadON o7 4 rfl ty72 rfl rfl rfl ?_)
                refine StillVC.run (StillVC.nilCheck rfl ?_)
                refine StillVC.run (StillVC.fieldAddr st74 rfl rfl rfl ?_)
                (refine RunVC.store o7 2 rfl ty72 rfl (by simp) (And.intro ⟨rfl, rfl⟩ ?_); intro m313 o313)
                refine StillVC.run (StillVC.nilCheck rfl ?_)
                refine StillVC.run (StillVC.fieldAddr st74 rfl rfl rfl ?_)
                (refine RunVC.store o313 2 rfl ty3 rfl (by simp) (And.intro ⟨rfl, rfl⟩ ?_); intro m316 o316)
                refine ⟨rfl, ?_⟩
                exact ⟨_, s2, 1, rfl, hpk, Own.sel (by assumption) [0, 1, 2] rfl⟩
          | false =>
            simp only [if_true, Bool.false_eq_true, if_false] at hpk
            refine Br.tt ?_
            refine Br.ff ?_
            refine Br.ff ?_
            refine Br.ff ?_
            refine Br.ff ?_
            refine Br.tt ?_
            refine Br.tt ?_
            refine Br.tt ?_
            refine StillVC.run (StillVC.loadON o7 3 rfl ty72 rfl rfl rfl ?_)
            refine StillVC.run (StillVC.nilCheck rfl ?_)
            refine StillVC.run (StillVC.fieldAddr st74 rfl rfl rfl ?_)
            (refine RunVC.store o7 2 rfl ty72 rfl (by simp) (And.intro ⟨rfl, rfl⟩ ?_); intro m303 o303)
            refine ⟨rfl, ?_⟩
            exact ⟨_, s1, 0, rfl, hpk, Own.sel (by assumption) [0, 1, 2] rfl⟩
        | false =>
          cases t2 with
          | true =>
            simp only [if_true, Bool.false_eq_true, if_false] at hpk
            refine Br.ff ?_
            refine Br.ff ?_
            refine Br.tt ?_
            refine Br.ff ?_
            refine Br.ff ?_
            refine Br.ff ?_
            refine Br.ff ?_
            refine Br.tt ?_
            refine StillVC.run (StillVC.loadON o7 4 rfl ty72 rfl rfl rfl ?_)
            refine StillVC.run (StillVC.nilCheck rfl ?_)
            refine StillVC.run (StillVC.fieldAddr st74 rfl rfl rfl ?_)
            (refine RunVC.store o7 2 rfl ty72 rfl (by simp) (And.intro ⟨rfl, rfl⟩ ?_); intro m303 o303)
            refine StillVC.run (StillVC.nilCheck rfl ?_)
            refine StillVC.run (StillVC.fieldAddr st74 rfl rfl rfl ?_)
            (refine RunVC.store o303 2 rfl ty3 rfl (by simp) (And.intro ⟨rfl, rfl⟩ ?_); intro m306 o306)
            refine ⟨rfl, ?_⟩
            exact ⟨_, s2, 1, rfl, hpk, Own.sel (by assumption) [0, 1, 2] rfl⟩
          | false =>
            simp only [Bool.false_eq_true, if_false] at hpk
            by_cases hz0 : f 0 = zS
            · rw [if_neg (fun hx => hx.1 hz0)] at hpk
              refine Br.ff ?_
              refine Br.ff ?_
              refine Br.tt ?_
              refine Br.tt ?_
              refine StillVC.run (StillVC.idx sl22 ty9 hA0 rfl (by omega) (by first | omega | (simp; omega)) ?_)
              refine StillVC.run (StillVC.loadM hA0 ty9 rfl (by first | assumption | rfl) ?_)
              refine Br.ndec (fun hc => absurd (by first | omega | assumption | decide | exact rfl) hc) (fun c302 => ?_)
              refine Br.ff ?_
              refine Br.ff ?_
              refine Br.ff ?_
              refine Br.ff ?_
              refine ⟨rfl, ?_⟩
              exact ⟨_, ⟨0, 0, 0⟩, 0, rfl, hpk, Own.sel (by assumption) [0, 1, 2] rfl⟩
            · by_cases hz1 : f 1 = zS
              · rw [if_neg (fun hx => hx.2 hz1)] at hpk
                refine Br.ff ?_
                refine Br.ff ?_
                refine Br.tt ?_
                refine Br.tt ?_
                refine StillVC.run (StillVC.idx sl22 ty9 hA0 rfl (by omega) (by first | omega | (simp; omega)) ?_)
                refine StillVC.run (StillVC.loadM hA0 ty9 rfl (by first | assumption | rfl) ?_)
                refine Br.ndec (fun c302 => ?_) (fun hc => absurd hc (by first | omega | assumption | decide | exact rfl))
                refine StillVC.run (StillVC.idx sl22 ty9 hA0 rfl (by omega) (by first | omega | (simp; omega)) ?_)
                refine StillVC.run (StillVC.loadM hA0 ty9 rfl (by first | assumption | rfl) ?_)
                refine Br.ndec (fun hc => absurd (by first | omega | assumption | decide | exact rfl) hc) (fun c305 => ?_)
                refine Br.ff ?_
                refine Br.ff ?_
                refine Br.ff ?_
                refine ⟨rfl, ?_⟩
                exact ⟨_, ⟨0, 0, 0⟩, 0, rfl, hpk, Own.sel (by assumption) [0, 1, 2] rfl⟩
              · rw [if_pos ⟨hz0, hz1⟩] at hpk
                refine Br.ff ?_
                refine Br.ff ?_
                refine Br.tt ?_
                refine Br.tt ?_
                refine StillVC.run (StillVC.idx sl22 ty9 hA0 rfl (by omega) (by first | omega | (simp; omega)) ?_)
                refine StillVC.run (StillVC.loadM hA0 ty9 rfl (by first | assumption | rfl) ?_)
                refine Br.ndec (fun c302 => ?_) (fun hc => absurd hc (by first | omega | assumption | decide | exact rfl))
                refine StillVC.run (StillVC.idx sl22 ty9 hA0 rfl (by omega) (by first | omega | (simp; omega)) ?_)
                refine StillVC.run (StillVC.loadM hA0 ty9 rfl (by first | assumption | rfl) ?_)
                refine Br.ndec (fun c305 => ?_) (fun hc => absurd hc (by first | omega | assumption | decide | exact rfl))
                refine RetVC.three rfl ?_
                exact bad hpk
  · rintro vs junk2 h2 ⟨v5, s, a, rfl, hpk, o2⟩
    obtain ⟨va, vc, rfl⟩ := o2.rowIs 1 rfl
    exact open_bodies c hc B dp lp n I f all s a va vc junk2 h2 ht h6 hn4 hlk hal hag hpk o2

end Go.Proofs.YtfjajkgfgigodaaGreatDoor

/- The log: Open, the sectors are read. -/
namespace Go.Proofs.YtfjajkgfgigodaaGreatDoor
open Go

set_option maxHeartbeats 4000000 in
set_option maxRecDepth 100000 in
theorem open_spec (B : Base) (dp : Nat) (d : Dk) (I : Item) (h : Heap) (ht : TabH B.h) (hI : IsDisk dp d I) (hq : d.q.length ≤ 1000) (o : Own B [I] h) :
    SpecR Tryz.prog 15 [.pointer (some ⟨dp, 0, none⟩)] h (OpenPost B dp I (openL d)) := by
  refine Spec.enter Tryz.func15 rfl Tryz.ntmps15 (by kernel_rfl) ?_
  rw [entryK_eq]
  refine vcode_cut 6 slots218 [5, 8] (fun vs h => ∃ lp v5, vs = [v5, .pointer (some ⟨lp, 0, none⟩)] ∧ Own B [I, row v5 9 1 d.st.length (strs (allS d d.st.length)), box lp (logC dp ⟨⟨0, 0, 0⟩, d.st.length, 0, [], false⟩ (.slice none 0 0)) 74] h ∧ d.off = false ∧ 6 ≤ d.st.length) ?_ ?_
  · simp only [cutPre]
    refine RunVC.eqP (by kernel_rfl) rfl rfl ?_
    refine Br.ff ?_
    have hn4 := (show DOK d from hI.1).le
    have o1 := o.nilRow 9 1
    simp only [List.cons_append, List.nil_append] at o1
    clear o
    unfold openL
    refine LoopVC.intro [2, 3, 4, 5, 6, 7, 24, 25, 26, 27, 28, 29, 30, 31, 32, 33, 34, 35, 36, 37, 38, 39] [5] (fun vs hh => ∃ (i : Nat) (a : Option Addr) (c : Nat), i ≤ d.st.length ∧ vs = [.slice a i c] ∧ Own B [I, row (.slice a i c) 9 1 i (strs (allS d i))] hh) (fun vs _ => match vs with | [.slice _ i _] => d.st.length - i | _ => 0) ?_ ?_
    · exact ⟨0, none, 0, by omega, rfl, o1⟩
    · clear o1
      rintro vs junk hh ⟨i, a, c, hi, rfl, o⟩
      refine StillVC.run (StillVC.lenV rfl sl22 ?_)
      refine CallVC.ret (read_disk _ dp d I i _ hI (o.lend [0] [1] rfl) (by omega)) ?_
      rintro _ h2 ⟨rfl, oc⟩
      have o2 := o.ext' oc
      clear oc o
      by_cases hoff : d.off = true
      · have hr : d.read (i : Int) = ([], 19) := by unfold Dk.read; rw [if_pos hoff]
        rw [hr, if_pos hoff]
        refine Br.tt ?_
        refine RetVC.three rfl ?_
        exact ⟨rfl, o2.sel [0] rfl⟩
      · rw [if_neg hoff]
        have hoff : d.off = false := by simpa using hoff
        by_cases hlt : i < d.st.length
        · have hr : d.read (i : Int) = (d.look i, 0) := by
            unfold Dk.read
            rw [if_neg (by rw [hoff]; decide), if_neg (by omega)]
            rfl
          rw [hr]
          have hsl : (strs (allS d i)).length = i := by simp [allS_len]
          refine Br.dec (fun hc => absurd hc (by omega)) (fun c60 => ?_)
          refine Br.dec (fun hc => absurd hc (by omega)) (fun c61 => ?_)
          (refine RunVC.lit o2 sl22 ty9 rfl rfl (by decide) (And.intro rfl ?_); intro b62 m62 o62)
          (refine RunVC.append o62 1 rfl sl22 ty9 (by decide) (o62.boxArr 2 rfl (by simp) (by simp)).toN (by simp [Value.oneCell']) (by simp only [maxLen]; first | omega | (simp; omega)) (by first | omega | (simp; omega)) ?_; intro v63 m63 o63)
          refine ⟨rfl, ?_⟩
          obtain ⟨xa, xc, rfl⟩ := o63.rowIs 1 rfl
          refine ⟨⟨i + 1, xa, xc, by omega, rfl, ?_⟩, by simp only [List.length_cons, List.length_nil]; omega⟩
          rw [allS_succ, app_strs]
          exact o63.sel [0, 1] rfl
        · have hr : d.read (i : Int) = ([], 1) := by
            unfold Dk.read
            rw [if_neg (by rw [hoff]; decide), if_pos (by omega)]
          rw [hr]
          obtain rfl : i = d.st.length := by omega
          by_cases h6 : d.st.length < 6
          · refine Br.ff ?_
            refine Br.tt ?_
            refine StillVC.run (StillVC.lenV rfl sl22 ?_)
            refine Br.dec (fun c61 => ?_) (fun hc => absurd (by omega) hc)
            refine RetVC.three rfl ?_
            have : openF d.look d.st.length = .error 1 := by unfold openF; rw [if_pos h6]
            rw [this]
            exact ⟨rfl, o2.sel [0] rfl⟩
          · refine Br.ff ?_
            refine Br.tt ?_
            refine StillVC.run (StillVC.lenV rfl sl22 ?_)
            refine Br.dec (fun hc => absurd hc (by omega)) (fun c61 => ?_)
            refine StillVC.run (StillVC.lenV rfl sl22 ?_)
            refine StillVC.run (StillVC.buildK st74 ?_)
            refine And.intro rfl ?_
            refine And.intro rfl ?_
            (refine RunVC.boxO o2 rfl ?_; intro b64 m64 o64)
            refine ⟨rfl, ?_⟩
            exact ⟨b64, .slice a d.st.length c, rfl, o64, hoff, by omega⟩
  · rintro vs junk h1 ⟨lp, v5, rfl, o1, hoff, h6⟩
    clear o
    have hn4 := (show DOK d from hI.1).le
    have hop : openL d = openF d.look d.st.length := by unfold openL; rw [if_neg (by rw [hoff]; decide)]
    rw [hop]
    have hlk := fun (s : Nat) (hs : s < d.st.length) => look_len (show DOK d from hI.1) hs
    obtain ⟨va, vc, rfl⟩ := o1.rowIs 1 rfl
    generalize hall : allS d d.st.length = all at o1
    generalize hn : d.st.length = n at o1 h6 hn4 hlk hall ⊢
    have hal : all.length = n := by rw [← hall, allS_len]
    have hag : ∀ i, i < n → all[i]? = some (d.look i) := fun i hi => by rw [← hall]; exact allS_get hi
    generalize d.look = f at hlk hag ⊢
    exact open_heads _ rfl B dp lp n I f all va vc junk h1 ht h6 hn4 hlk hal hag o1

end Go.Proofs.YtfjajkgfgigodaaGreatDoor
