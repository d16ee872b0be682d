/-
  What operations keep, whatever the disk does. Both logs, of which there may be none, and what the operations make of them. The statement LogMatchesReference.
-/
import Derived.Test.YtfjajkgfgigodaaGreatDoorStructs
import Derived.Test.YtfjajkgfgigodaaGreatDoorVcSep
import Derived.Test.YtfjajkgfgigodaaGreatDoorMFo
import Derived.Test.YtfjajkgfgigodaaGreatDoorMRf
import Derived.Test.YtfjajkgfgigodaaGreatDoorMDu
import Derived.Test.YtfjajkgfgigodaaGreatDoorOps
import Derived.Test.YtfjajkgfgigodaaGreatDoorMBr
/- What operations keep, whatever the disk does. -/
namespace Go.Proofs.YtfjajkgfgigodaaGreatDoor
open Go

theorem fail_keep (d : Dk) (w b : Int) : (d.fail w b).st.length = d.st.length ∧ (d.off = false → (d.fail w b).q = [] ∧ (d.fail w b).off = true) := by
  unfold Dk.fail
  split
  · rename_i h
    exact ⟨rfl, fun h' => absurd h (by rw [h']; decide)⟩
  · refine ⟨?_, fun _ => ⟨rfl, rfl⟩⟩
    unfold Dk.tear
    simp only
    split
    · split
      · simp [Dk.set, settle_len]
      · simp [settle_len]
    · simp [settle_len]

theorem count_keep (d : Dk) (h : d.off = false) : d.count.2.st.length = d.st.length ∧ ((d.count.1 = 0 ∧ d.count.2.off = false) ∨ (d.count.1 = 19 ∧ d.count.2.q = [] ∧ d.count.2.off = true)) := by
  unfold Dk.count
  split
  · exact ⟨rfl, .inl ⟨rfl, h⟩⟩
  · rename_i a w b _
    split
    · exact ⟨rfl, .inl ⟨rfl, h⟩⟩
    · obtain ⟨h1, h2⟩ := fail_keep d w b
      exact ⟨h1, .inr ⟨rfl, h2 h⟩⟩

/-- A disk that is off has nothing pending. -/
def OffQ (d : Dk) : Prop := d.off = true → d.q = []

theorem write_keep {d : Dk} {s : Nat} {t : List UInt8} (h : OffQ d) (hs : s < d.st.length) (ht : t.length = 64) : (d.write s t).2.st.length = d.st.length ∧ (((d.write s t).1 = 0 ∧ (d.write s t).2.off = false) ∨ ((d.write s t).1 = 19 ∧ (d.write s t).2.q = [])) := by
  unfold Dk.write
  by_cases ho : d.off = true
  · rw [if_pos ho]
    exact ⟨rfl, .inr ⟨rfl, h ho⟩⟩
  · rw [if_neg ho, if_neg (by omega)]
    obtain ⟨h1, h2⟩ := count_keep { d with q := d.q ++ [((s : Int).toNat, t)] } (by simpa using ho)
    exact ⟨h1, h2.imp id fun x => ⟨x.1, x.2.1⟩⟩

theorem sync_keep {d : Dk} (h : OffQ d) : d.sync.2.st.length = d.st.length ∧ d.sync.2.q = [] ∧ (d.sync.1 = 0 ∨ d.sync.1 = 19) := by
  unfold Dk.sync
  by_cases ho : d.off = true
  · rw [if_pos ho]
    exact ⟨rfl, h ho, .inr rfl⟩
  · rw [if_neg ho]
    obtain ⟨h1, h2⟩ := count_keep d (by simpa using ho)
    generalize d.count = c at h1 h2 ⊢
    obtain ⟨e, d1⟩ := c
    simp only at h1 h2 ⊢
    rcases h2 with ⟨rfl, _⟩ | ⟨rfl, hq, _⟩
    · rw [if_neg (by decide)]
      exact ⟨(settle_len _ _).trans h1, rfl, .inl rfl⟩
    · rw [if_pos (by decide)]
      exact ⟨h1, hq, .inr rfl⟩

theorem each_keep {n : Nat} : ∀ (ws : List (Nat × List UInt8)) (d : Dk), OffQ d → d.st.length = n → InR n ws → (eachD ws d).2.st.length = n ∧ (eachD ws d).2.q = [] ∧ ((eachD ws d).1 = 0 ∨ (eachD ws d).1 = 19)
  | [], d, h, hn, _ => by
    obtain ⟨h1, h2⟩ := sync_keep h
    exact ⟨h1.trans hn, h2⟩
  | p :: r, d, h, hn, hr => by
    have hp := hr p (by simp)
    obtain ⟨h1, h2⟩ := write_keep h (by rw [hn]; exact hp.1) hp.2
    rw [eachD_cons]
    rcases h2 with ⟨e0, ho⟩ | ⟨e1, hq⟩
    · rw [if_neg (by rw [e0]; decide)]
      exact each_keep r _ (fun hx => absurd hx (by rw [ho]; decide)) (h1.trans hn) fun x hx => hr x (List.mem_cons_of_mem _ hx)
    · rw [if_pos (by rw [e1]; decide)]
      exact ⟨h1.trans hn, hq, .inr e1⟩

theorem run_keep {n : Nat} : ∀ (bs : List (List (Nat × List UInt8))) (d : Dk), d.q = [] → d.st.length = n → (∀ ws ∈ bs, InR n ws) → (runD bs d).2.st.length = n ∧ (runD bs d).2.q = [] ∧ ((runD bs d).1 = 0 ∨ (runD bs d).1 = 19)
  | [], d, hq, hn, _ => ⟨hn, hq, .inl rfl⟩
  | b :: bs, d, hq, hn, hb => by
    obtain ⟨h1, h2, h3⟩ := each_keep b d (fun _ => hq) hn (hb b (by simp))
    rw [runD_cons]
    split
    · exact ⟨h1, h2, h3⟩
    · exact run_keep bs _ h2 h1 fun x hx => hb x (List.mem_cons_of_mem _ hx)

theorem app_in {L : Lg} {t : List UInt8} (hL : LOK L) (hl : L.s.len + (splitL t).length ≤ halfN L.n) : ∀ ws ∈ appB L t, InR L.n ws := by
  have h6 := hL.n6
  have hst := start_le L.n L.s.gen h6
  have ha := hL.at2
  exact putB_in (by omega) (by omega) (by show startN L.n L.s.gen + L.s.len + (splitL t).length ≤ L.n; omega) fun i b hb => ((split_shape t).2 i b hb).1

theorem rew_in {L : Lg} {rs : List (List UInt8)} (hL : LOK L) (hl : (partsL rs).length ≤ halfN L.n) : ∀ ws ∈ rewB L rs, InR L.n ws := by
  have h6 := hL.n6
  have hst := start_le L.n (L.s.gen + 1) h6
  have ha := hL.at2
  exact rewB_in (by omega) (by omega) (by omega)

/-- What an operation keeps. -/
structure Keeps (N : Nat) (L : Lg) (d : Dk) : Prop where
  lok : LOK L
  n : L.n = N
  q : d.q = []
  len : d.st.length = N

theorem app_keep {N : Nat} {L : Lg} {d : Dk} (h : Keeps N L d) (t : List UInt8) : Keeps N (appL L d t).2.1 (appL L d t).2.2 := by
  unfold appL
  split
  · exact h
  · split
    · exact h
    · split
      · exact h
      · rename_i hc
        have hc1 : L.s.len + (splitL t).length ≤ halfN L.n := by omega
        have hc2 : L.s.num ≠ 999999999 := by omega
        obtain ⟨h1, h2, h3⟩ := run_keep (n := N) (appB L t) d h.q h.len (by rw [← h.n]; exact app_in h.lok hc1)
        have hL := h.lok
        have hf := hL.fits
        have hpl : (partsL (L.list ++ [t])).length = (partsL L.list).length + (splitL t).length := by simp [partsL]
        have hh : halfN L.n ≤ 1999 := by have := hL.n4; unfold halfN; omega
        simp only
        split
        · exact ⟨⟨hL.n6, hL.n4, hL.at2, hL.fits, hL.len, hL.half⟩, h.n, h2, h1⟩
        · refine ⟨⟨hL.n6, hL.n4, (by show (0 : Nat) < 2; omega), ⟨?_, hf.gen, ?_⟩, ?_, ?_⟩, h.n, h2, h1⟩
          · show L.s.num + 1 < _
            have := hf.num
            omega
          · show L.s.len + (splitL t).length < _
            omega
          · show L.s.len + (splitL t).length = (partsL (L.list ++ [t])).length
            rw [hpl, hL.len]
          · exact hc1

theorem rew_keep {N : Nat} {L : Lg} {d : Dk} (h : Keeps N L d) (rs : List (List UInt8)) : Keeps N (rewL L d rs).2.1 (rewL L d rs).2.2 := by
  unfold rewL
  split
  · exact h
  · split
    · exact h
    · split
      · exact h
      · split
        · exact h
        · rename_i hg hc
          have hc1 : (partsL rs).length ≤ halfN L.n := by omega
          have hc2 : L.s.num ≠ 999999999 := by omega
          obtain ⟨h1, h2, h3⟩ := run_keep (n := N) (rewB L rs) d h.q h.len (by rw [← h.n]; exact rew_in h.lok hc1)
          have hL := h.lok
          have hf := hL.fits
          have hh : halfN L.n ≤ 1999 := by have := hL.n4; unfold halfN; omega
          simp only
          split
          · exact ⟨⟨hL.n6, hL.n4, hL.at2, hL.fits, hL.len, hL.half⟩, h.n, h2, h1⟩
          · refine ⟨⟨hL.n6, hL.n4, (by show (0 : Nat) < 2; omega), ⟨?_, ?_, ?_⟩, rfl, hc1⟩, h.n, h2, h1⟩
            · show L.s.num + 1 < _
              have := hf.num
              omega
            · show L.s.gen + 1 < _
              have := hf.gen
              omega
            · show (partsL rs).length < _
              omega

end Go.Proofs.YtfjajkgfgigodaaGreatDoor

/- Both logs, of which there may be none, and what the operations make of them. -/
namespace Go.Proofs.YtfjajkgfgigodaaGreatDoor
open Go

theorem own_two {B : Base} {I a b : Item} {h : Heap} (o : Own B [I, sepI [a, b]] h) : Own B [I, a, b] h :=
  (Own.unsep (L := [a, b]) (M := [I]) (o.permL (List.Perm.swap _ _ _))).sel [2, 0, 1] rfl

theorem two_own {B : Base} {I a b : Item} {h : Heap} (o : Own B [I, a, b] h) : Own B [I, sepI [a, b]] h :=
  Own.permL (Own.sep (L := [a, b]) (M := [I]) (o.sel [1, 2, 0] rfl)) (List.Perm.swap _ _ _)

theorem two_own3 {B : Base} {I a b c : Item} {h : Heap} (o : Own B [I, a, b, c] h) : Own B [I, sepI [a, b], c] h :=
  (Own.sep (L := [a, b]) (M := [I, c]) (o.sel [1, 2, 0, 3] rfl)).sel [1, 0, 2] rfl

theorem emp2 {B : Base} {I : Item} {h : Heap} (o : Own B [I] h) : Own B [I, emptyI] h := o.emptyI'.sel [1, 0] rfl

/- NO LOG, OR ONE -/
def listO : Option Lg → List (List UInt8)
  | none => []
  | some L => L.list

def roomO : Option Lg → Int
  | none => 0
  | some L => (halfN L.n : Int) - L.s.len

def appO (oL : Option Lg) (d : Dk) (t : List UInt8) : Int × Option Lg × Dk := match oL with
  | none => (1, none, d)
  | some L => ((appL L d t).1, some (appL L d t).2.1, (appL L d t).2.2)

def rewO (oL : Option Lg) (d : Dk) (rs : List (List UInt8)) : Int × Option Lg × Dk := match oL with
  | none => (1, none, d)
  | some L => ((rewL L d rs).1, some (rewL L d rs).2.1, (rewL L d rs).2.2)

def openO (d : Dk) : Int × Option Lg := match openL d with
  | .error e => (e, none)
  | .ok L => (0, some L)

def LOKo : Option Lg → Prop
  | none => True
  | some L => LOK L

theorem LOKo.list {oL : Option Lg} (h : LOKo oL) : (listO oL).length ≤ 2000 := by
  cases oL with
  | none => exact Nat.zero_le _
  | some L => exact LOK.list h

theorem openO_lok {d : Dk} (h : DOK d) : LOKo (openO d).2 ∧ ∀ L, (openO d).2 = some L → L.n = d.st.length := by
  unfold openO
  cases hq : openL d with
  | error e => exact ⟨trivial, fun L h => by cases h⟩
  | ok L =>
    obtain ⟨h1, h2, _⟩ := open_lok h hq
    exact ⟨h1, fun L' h => by cases h; exact h2⟩

def IsJ (dp : Nat) (oL : Option Lg) (jv : Value) (J : Item) : Prop := match oL with
  | none => jv = .pointer none ∧ J = emptyI
  | some L => ∃ lp lv, jv = .pointer (some ⟨lp, 0, none⟩) ∧ J = sepI (LogI lp dp L lv)

def IsK (rp : Nat) (oL : Option Lg) (kv : Value) (K : Item) : Prop := match oL with
  | none => kv = .pointer none ∧ K = emptyI
  | some L => ∃ kp lv, kv = .pointer (some ⟨kp, 0, none⟩) ∧ K = sepI (KLogI kp rp L lv)

theorem sat_cell {b k : Nat} {cs : List Value} {t : TypeId} {v : Value} {h : Heap} (hs : (box b cs t).sat h) (hk : cs[k]? = some v) : cellAt h ⟨b, k, none⟩ = some v := by
  have hb : h[b]? = some (.cells cs.toArray t (0, 0)) := hs
  simp [cellAt, hb, hk]

set_option maxHeartbeats 4000000 in
set_option maxRecDepth 100000 in
theorem rewrite_nil (h : Heap) (v : Value) (rs : List (List UInt8)) (hA : Arr h v (strs rs)) : SpecR Tryz.prog 16 [.pointer none, v] h fun v h' => v = .int .i64 1 ∧ Own h [] h' := by
  have hsl : (strs rs).length = rs.length := by simp
  obtain ⟨aa, cc, hv, hcc, hrr⟩ := hA
  rw [hsl] at hv
  subst hv
  refine Spec.enter Tryz.func16 rfl Tryz.ntmps16 (by kernel_rfl) ?_
  have o0 := Own.refl h
  (refine RunVC.boxO o0 rfl ?_; intro b20 m20 o20)
  (refine RunVC.boxO o20 rfl ?_; intro b21 m21 o21)
  refine StillVC.run (StillVC.loadO o21 0 rfl ty29 rfl rfl ?_)
  refine StillVC.run (StillVC.loadO o21 1 rfl ty22 rfl rfl ?_)
  refine CallVC.ret (check_nil _ _) ?_
  rintro _ h1 ⟨rfl, oc⟩
  have o1 := oc.thenE (by assumption : Own ⟨h, []⟩ _ _)
  clear oc
  refine Br.tt ?_
  refine RetVC.one rfl ?_
  exact ⟨rfl, o1.sel [] rfl⟩

theorem IsJ.records {dp : Nat} {oL : Option Lg} {jv : Value} {J : Item} {h : Heap} (hJ : IsJ dp oL jv J) (hs : J.sat h) (hL : LOKo oL) : SpecR Tryz.prog 23 [jv] h fun v h' => Own h [row v 9 1 (listO oL).length (strs (listO oL))] h' := by
  cases oL with
  | none =>
    obtain ⟨rfl, rfl⟩ := hJ
    refine (records_nil h).mono ?_
    rintro v h' ⟨rfl, o⟩
    exact o.nilRow 9 1
  | some L =>
    obtain ⟨lp, lv, rfl, rfl⟩ := hJ
    have h1 := hs.1 _ List.mem_cons_self
    have h2 := hs.1 _ (List.mem_cons_of_mem _ List.mem_cons_self)
    exact records_spec lp 0 L.list lv h (sat_cell h1 rfl) (row_reads h h2).to1 (by have := LOK.list hL; omega)

theorem IsJ.room {dp : Nat} {oL : Option Lg} {jv : Value} {J : Item} {h : Heap} (hJ : IsJ dp oL jv J) (hs : J.sat h) (hL : LOKo oL) : SpecR Tryz.prog 28 [jv] h fun v h' => v = .int .i64 (roomO oL) ∧ Own h [] h' := by
  cases oL with
  | none =>
    obtain ⟨rfl, rfl⟩ := hJ
    exact room_nil h
  | some L =>
    obtain ⟨lp, lv, rfl, rfl⟩ := hJ
    have h1 := hs.1 _ List.mem_cons_self
    have h2 := LOK.n6 hL
    have h3 := LOK.n4 hL
    have h4 := LOK.half hL
    have h5 : halfN L.n ≤ 2000 := by unfold halfN; omega
    exact room_spec lp L.n L.s.len h (sat_cell h1 rfl) (sat_cell h1 rfl) (by omega) (by omega) (by omega)

theorem IsJ.append {B : Base} {dp : Nat} {oL : Option Lg} {jv : Value} {I J : Item} {d : Dk} {t : List UInt8} {h : Heap} (ht : TabH B.h) (hJ : IsJ dp oL jv J) (hI : IsDisk dp d I) (o : Own B [I, J] h) (hL : LOKo oL) (hq : d.q = []) (htl : t.length ≤ 1000000000) :
    SpecR Tryz.prog 26 [jv, .string ⟨⟨t⟩⟩] h fun v h' => v = .int .i64 (appO oL d t).1 ∧ ∃ I' J', IsDisk dp (appO oL d t).2.2 I' ∧ IsJ dp (appO oL d t).2.1 jv J' ∧ Own B [I', J'] h' := by
  cases oL with
  | none =>
    obtain ⟨rfl, rfl⟩ := hJ
    refine (append_nil h t).mono ?_
    rintro v h' ⟨rfl, oc⟩
    exact ⟨rfl, I, emptyI, hI, ⟨rfl, rfl⟩, o.ext' oc⟩
  | some L =>
    obtain ⟨lp, lv, rfl, rfl⟩ := hJ
    refine (append_spec B lp dp d I L lv t h ht hI (by rw [hq]; simp) hL (LOK.fits hL).num htl (own_two o)).mono ?_
    rintro v h' ⟨rfl, I', lv', hI', oo⟩
    exact ⟨rfl, I', _, hI', ⟨lp, lv', rfl, rfl⟩, two_own oo⟩

theorem IsJ.rewrite {B : Base} {dp : Nat} {oL : Option Lg} {jv rv : Value} {I J : Item} {d : Dk} {rs : List (List UInt8)} {h : Heap} (ht : TabH B.h) (hJ : IsJ dp oL jv J) (hI : IsDisk dp d I) (o : Own B [I, J] h) (hL : LOKo oL) (hq : d.q = []) (hA : Arr B.h rv (strs rs)) (hrs : rs.length ≤ 20) (hrl : ∀ r ∈ rs, r.length ≤ 10000) :
    SpecR Tryz.prog 16 [jv, rv] h fun v h' => v = .int .i64 (rewO oL d rs).1 ∧ ∃ I' J', IsDisk dp (rewO oL d rs).2.2 I' ∧ IsJ dp (rewO oL d rs).2.1 jv J' ∧ Own B [I', J'] h' := by
  cases oL with
  | none =>
    obtain ⟨rfl, rfl⟩ := hJ
    refine (rewrite_nil h rv rs (hA.ext o.ext)).mono ?_
    rintro v h' ⟨rfl, oc⟩
    exact ⟨rfl, I, emptyI, hI, ⟨rfl, rfl⟩, o.ext' oc⟩
  | some L =>
    obtain ⟨lp, lv, rfl, rfl⟩ := hJ
    refine (rewrite_spec B lp dp d I emptyI L lv rv rs h ht hI (by rw [hq]; simp) hL (by omega) (partsL_short rs hrs hrl) (fun r hr => by have := hrl r hr; omega) (RD.base hA) ((own_two o).emptyI'.sel [1, 2, 3, 0] rfl)).mono ?_
    rintro v h' ⟨rfl, I', lv', hI', oo⟩
    exact ⟨rfl, I', _, hI', ⟨lp, lv', rfl, rfl⟩, two_own (oo.sel [0, 1, 2] rfl)⟩

theorem IsJ.opened {B : Base} {dp : Nat} {I : Item} {d : Dk} {h : Heap} (ht : TabH B.h) (hI : IsDisk dp d I) (o : Own B [I] h) (hq : d.q = []) :
    SpecR Tryz.prog 15 [.pointer (some ⟨dp, 0, none⟩)] h fun v h' => ∃ jv xv J, v = .tuple ⟨[jv, xv, .int .i64 (openO d).1]⟩ ∧ IsJ dp (openO d).2 jv J ∧ Own B [I, J, row xv 9 1 (listO (openO d).2).length (strs (listO (openO d).2))] h' := by
  refine (open_spec B dp d I h ht hI (by rw [hq]; simp) o).mono ?_
  unfold openO
  cases openL d with
  | error e =>
    rintro v h' ⟨rfl, oo⟩
    exact ⟨_, _, emptyI, rfl, ⟨rfl, rfl⟩, (emp2 oo).nilRow 9 1⟩
  | ok L =>
    rintro v h' ⟨lp, lv, rv, rfl, oo⟩
    exact ⟨_, rv, _, rfl, ⟨lp, lv, rfl, rfl⟩, two_own3 oo⟩

theorem IsK.records {dp : Nat} {oL : Option Lg} {jv : Value} {J : Item} {h : Heap} (hJ : IsK dp oL jv J) (hs : J.sat h) (hL : LOKo oL) : SpecR Tryz.prog 32 [jv] h fun v h' => Own h [row v 9 1 (listO oL).length (strs (listO oL))] h' := by
  cases oL with
  | none =>
    obtain ⟨rfl, rfl⟩ := hJ
    refine (krecords_nil h).mono ?_
    rintro v h' ⟨rfl, o⟩
    exact o.nilRow 9 1
  | some L =>
    obtain ⟨lp, lv, rfl, rfl⟩ := hJ
    have h1 := hs.1 _ List.mem_cons_self
    have h2 := hs.1 _ (List.mem_cons_of_mem _ List.mem_cons_self)
    exact krecords_spec lp L.list lv h (sat_cell h1 rfl) (row_reads h h2).to1 (by have := LOK.list hL; omega)

theorem IsK.room {dp : Nat} {oL : Option Lg} {jv : Value} {J : Item} {h : Heap} (hJ : IsK dp oL jv J) (hs : J.sat h) (hL : LOKo oL) : SpecR Tryz.prog 33 [jv] h fun v h' => v = .int .i64 (roomO oL) ∧ Own h [] h' := by
  cases oL with
  | none =>
    obtain ⟨rfl, rfl⟩ := hJ
    exact kroom_nil h
  | some L =>
    obtain ⟨lp, lv, rfl, rfl⟩ := hJ
    have h1 := hs.1 _ List.mem_cons_self
    have h2 := LOK.n6 hL
    have h3 := LOK.n4 hL
    have h4 := LOK.half hL
    have h5 : halfN L.n ≤ 2000 := by unfold halfN; omega
    exact kroom_spec lp L.n L.s.len h (sat_cell h1 rfl) (sat_cell h1 rfl) (by omega) (by omega) (by omega)

theorem IsK.append {B : Base} {dp : Nat} {oL : Option Lg} {jv : Value} {I J : Item} {d : Dk} {t : List UInt8} {h : Heap} (hJ : IsK dp oL jv J) (hI : IsRf dp d I) (o : Own B [I, J] h) (hL : LOKo oL) (hq : d.q = []) (htl : t.length ≤ 1000000000) :
    SpecR Tryz.prog 34 [jv, .string ⟨⟨t⟩⟩] h fun v h' => v = .int .i64 (appO oL d t).1 ∧ ∃ I' J', IsRf dp (appO oL d t).2.2 I' ∧ IsK dp (appO oL d t).2.1 jv J' ∧ Own B [I', J'] h' := by
  cases oL with
  | none =>
    obtain ⟨rfl, rfl⟩ := hJ
    refine (kappend_nil h t).mono ?_
    rintro v h' ⟨rfl, oc⟩
    exact ⟨rfl, I, emptyI, hI, ⟨rfl, rfl⟩, o.ext' oc⟩
  | some L =>
    obtain ⟨lp, lv, rfl, rfl⟩ := hJ
    refine (kappend_spec B lp dp d I L lv t h hI (by rw [hq]; simp) hL htl (own_two o)).mono ?_
    rintro v h' ⟨rfl, I', lv', hI', oo⟩
    exact ⟨rfl, I', _, hI', ⟨lp, lv', rfl, rfl⟩, two_own oo⟩

theorem IsK.rewrite {B : Base} {dp : Nat} {oL : Option Lg} {jv rv : Value} {I J : Item} {d : Dk} {rs : List (List UInt8)} {h : Heap} (hJ : IsK dp oL jv J) (hI : IsRf dp d I) (o : Own B [I, J] h) (hL : LOKo oL) (hq : d.q = []) (hA : Arr B.h rv (strs rs)) (hrs : rs.length ≤ 20) (hrl : ∀ r ∈ rs, r.length ≤ 10000) :
    SpecR Tryz.prog 35 [jv, rv] h fun v h' => v = .int .i64 (rewO oL d rs).1 ∧ ∃ I' J', IsRf dp (rewO oL d rs).2.2 I' ∧ IsK dp (rewO oL d rs).2.1 jv J' ∧ Own B [I', J'] h' := by
  cases oL with
  | none =>
    obtain ⟨rfl, rfl⟩ := hJ
    refine (krewrite_nil h rv).mono ?_
    rintro v h' ⟨rfl, oc⟩
    exact ⟨rfl, I, emptyI, hI, ⟨rfl, rfl⟩, o.ext' oc⟩
  | some L =>
    obtain ⟨lp, lv, rfl, rfl⟩ := hJ
    refine (krewrite_spec B lp dp d I emptyI L lv rv rs h hI (by rw [hq]; simp) hL (by omega) (partsL_short rs hrs hrl) (fun r hr => by have := hrl r hr; omega) (RD.base hA) ((own_two o).emptyI'.sel [1, 2, 3, 0] rfl)).mono ?_
    rintro v h' ⟨rfl, I', lv', hI', oo⟩
    exact ⟨rfl, I', _, hI', ⟨lp, lv', rfl, rfl⟩, two_own (oo.sel [0, 1, 2] rfl)⟩

theorem IsK.opened {B : Base} {dp : Nat} {I : Item} {d : Dk} {h : Heap} (hI : IsRf dp d I) (o : Own B [I] h) (hq : d.q = []) :
    SpecR Tryz.prog 31 [.pointer (some ⟨dp, 0, none⟩)] h fun v h' => ∃ jv xv J, v = .tuple ⟨[jv, xv, .int .i64 (openO d).1]⟩ ∧ IsK dp (openO d).2 jv J ∧ Own B [I, J, row xv 9 1 (listO (openO d).2).length (strs (listO (openO d).2))] h' := by
  refine (kopen_spec B dp d I h hI (by rw [hq]; simp) o).mono ?_
  unfold openO
  cases openL d with
  | error e =>
    rintro v h' ⟨rfl, oo⟩
    exact ⟨_, _, emptyI, rfl, ⟨rfl, rfl⟩, (emp2 oo).nilRow 9 1⟩
  | ok L =>
    rintro v h' ⟨lp, lv, rv, rfl, oo⟩
    exact ⟨_, rv, _, rfl, ⟨lp, lv, rfl, rfl⟩, two_own3 oo⟩

end Go.Proofs.YtfjajkgfgigodaaGreatDoor

/- The statement LogMatchesReference. -/
namespace Go.Proofs.YtfjajkgfgigodaaGreatDoor
open Go

/-- What holds of both logs between two operations. -/
structure KeepO (N : Nat) (oL : Option Lg) (d : Dk) : Prop where
  q : d.q = []
  len : d.st.length = N
  lok : LOKo oL
  n : ∀ L, oL = some L → L.n = N

theorem keep_app {N : Nat} {oL : Option Lg} {d : Dk} (h : KeepO N oL d) (t : List UInt8) : KeepO N (appO oL d t).2.1 (appO oL d t).2.2 := by
  cases oL with
  | none => exact h
  | some L =>
    have k := app_keep (N := N) (L := L) (d := d) ⟨h.lok, h.n L rfl, h.q, h.len⟩ t
    exact ⟨k.q, k.len, k.lok, fun L' hl => by cases hl; exact k.n⟩

theorem keep_rew {N : Nat} {oL : Option Lg} {d : Dk} (h : KeepO N oL d) (rs : List (List UInt8)) : KeepO N (rewO oL d rs).2.1 (rewO oL d rs).2.2 := by
  cases oL with
  | none => exact h
  | some L =>
    have k := rew_keep (N := N) (L := L) (d := d) ⟨h.lok, h.n L rfl, h.q, h.len⟩ rs
    exact ⟨k.q, k.len, k.lok, fun L' hl => by cases hl; exact k.n⟩

theorem keep_open {N : Nat} {d : Dk} (hd : DOK d) (hq : d.q = []) (hl : d.st.length = N) : KeepO N (openO d).2 d := by
  obtain ⟨h1, h2⟩ := openO_lok hd
  exact ⟨hq, hl, h1, fun L h => (h2 L h).trans hl⟩

theorem IsJ.ptr {dp : Nat} {oL : Option Lg} {jv : Value} {J : Item} (h : IsJ dp oL jv J) : ∃ p, jv = .pointer p ∧ p.isNone = oL.isNone := by
  cases oL with
  | none => exact ⟨none, h.1, rfl⟩
  | some L =>
    obtain ⟨lp, lv, rfl, _⟩ := h
    exact ⟨_, rfl, rfl⟩

theorem IsK.ptr {dp : Nat} {oL : Option Lg} {jv : Value} {J : Item} (h : IsK dp oL jv J) : ∃ p, jv = .pointer p ∧ p.isNone = oL.isNone := by
  cases oL with
  | none => exact ⟨none, h.1, rfl⟩
  | some L =>
    obtain ⟨lp, lv, rfl, _⟩ := h
    exact ⟨_, rfl, rfl⟩

theorem arm_qq (d : Dk) (a w b : Int) : (d.armed a w b).q = d.q := by unfold Dk.armed; split <;> rfl

theorem kind_six {x : OpW} (h : 0 ≤ x.kind ∧ x.kind ≤ 255) : x.kind.tmod 6 = 0 ∨ x.kind.tmod 6 = 1 ∨ x.kind.tmod 6 = 2 ∨ x.kind.tmod 6 = 3 ∨ x.kind.tmod 6 = 4 ∨ x.kind.tmod 6 = 5 := by
  rw [Int.tmod_eq_emod_of_nonneg h.1]
  omega

set_option maxHeartbeats 16000000 in
set_option maxRecDepth 100000 in
theorem matches_law (n : Int) (xs : List OpW) (ov : Value) (h : Heap) (ht : TabH h) (hO : Ops h ov xs) :
    SpecR Tryz.prog 10 [.int .i64 n, ov] h fun r h' => r = .bool true ∧ Own h [] h' := by
  obtain ⟨oa, ocap, rfl⟩ : ∃ a c, ov = .slice a xs.length c := by
    obtain ⟨_, a, c, e, _⟩ := hO.arr
    exact ⟨a, c, e⟩
  refine Spec.enter Tryz.func10 rfl Tryz.ntmps10 (by kernel_rfl) ?_
  refine CallVC.ret (head_spec46 h ht) ?_
  rintro _ m1 ⟨rfl, oc1⟩
  refine CallVC.ret (light_spec n xs _ _ (hO.ext oc1.ext)) ?_
  rintro _ m2 ⟨⟨bl, rfl, hl⟩, oc2⟩
  have o1 : Own ⟨h, []⟩ [] m2 := oc1.ext' oc2
  clear oc1 oc2
  cases bl with
  | false =>
    refine Br.tt ?_
    refine RetVC.one rfl ?_
    exact ⟨rfl, o1⟩
  | true =>
    have hL := hl rfl
    have hn40 := hL.n
    refine Br.ff ?_
    by_cases hn : n < 1
    · refine CallVC.ret (new_none n _ (.inl hn)) ?_
      rintro _ m3 ⟨rfl, oc⟩
      have o2 := o1.ext' oc
      clear oc o1
      refine CallVC.ret (rnew_none n _ (.inl hn)) ?_
      rintro _ m4 ⟨rfl, oc⟩
      have o3 := o2.ext' oc
      clear oc o2
      refine RunVC.eqP (by kernel_rfl) rfl rfl ?_
      refine Br.tt ?_
      refine Br.tt ?_
      refine CallVC.ret (open_nil _) ?_
      rintro _ m5 ⟨rfl, oc⟩
      have o4 := o3.ext' oc
      clear oc o3
      refine Br.tt ?_
      refine RunVC.eqP (by kernel_rfl) rfl rfl ?_
      refine Br.tt ?_
      refine RunVC.eqP (by kernel_rfl) rfl rfl ?_
      refine Br.tt ?_
      refine RetVC.one rfl ?_
      exact ⟨rfl, o4⟩
    obtain ⟨N, rfl⟩ : ∃ N : Nat, n = N := ⟨n.toNat, by omega⟩
    refine CallVC.ret (new_disk N _ (by omega) (by omega)) ?_
    rintro _ m3 ⟨dp, I0, rfl, hI0, oc⟩
    have o2 : Own ⟨h, []⟩ [I0] m3 := o1.call oc
    clear oc o1
    refine CallVC.ret (rnew_spec N _ (by omega) (by omega)) ?_
    rintro _ m4 ⟨rp, R0, rfl, hR0, oc⟩
    have o3 : Own ⟨h, []⟩ [I0, R0] m4 := o2.call oc
    clear oc o2
    refine RunVC.eqP (by kernel_rfl) rfl rfl ?_
    refine Br.ff ?_
    refine RunVC.eqP (by kernel_rfl) rfl rfl ?_
    refine Br.ff ?_
    refine CallVC.ret (IsJ.opened (by exact ht) hI0 (o3.lend [0] [1] rfl) rfl) ?_
    rintro _ m5 ⟨jv, xv, J0, rfl, hJ0, oc⟩
    have o4 : Own ⟨h, []⟩ [I0, J0, row xv 9 1 (listO (openO (newD N)).2).length (strs (listO (openO (newD N)).2)), R0] m5 := oc.back
    clear oc o3
    refine CallVC.ret (IsK.opened hR0 (o4.lend [3] [0, 1, 2] rfl) rfl) ?_
    rintro _ m6 ⟨kv, yv, K0, rfl, hK0, oc⟩
    have o5 : Own ⟨h, []⟩ [R0, K0, row yv 9 1 (listO (openO (newD N)).2).length (strs (listO (openO (newD N)).2)), I0, J0, row xv 9 1 (listO (openO (newD N)).2).length (strs (listO (openO (newD N)).2))] m6 := oc.back
    clear oc o4
    refine LoopVC.intro [4, 11, 12, 13, 14, 15, 16, 17, 18, 70, 71, 72, 73, 74, 75, 76, 77, 78, 79, 80, 81, 82, 83, 84, 85, 86, 87, 88, 89, 90, 91, 92, 93, 94, 95, 96, 97, 98, 99, 100, 101, 102, 103, 104, 105, 106, 107, 108, 109, 110, 111, 112, 113, 114, 115, 116, 117, 118, 119, 120, 121, 122, 123, 124, 125, 126, 127, 128, 129, 130, 131, 132, 133, 134, 135, 136, 137, 138, 139, 140, 141, 142, 143, 144, 145, 146, 147, 148, 149, 150, 151, 152, 153, 154, 155, 156, 157, 158, 159, 160, 161, 162, 163, 164, 165, 166, 167, 168, 169, 170, 171, 172, 173, 174, 175, 176, 177, 178, 179, 180, 181, 182, 183, 184, 185, 186, 187, 188, 189, 190, 191, 192, 193, 194, 195, 196, 197, 198, 199, 200, 201, 202, 203, 204, 205, 206, 207, 208, 209, 210, 211, 212, 213] [11, 12, 13, 14, 15, 16, 17] (fun vs hh => ∃ (i : Nat) (oL : Option Lg) (d : Dk) (e : Int) (xl : List (List UInt8)) (jv kv xv yv : Value) (I1 I2 J K : Item), i ≤ xs.length ∧ vs = [jv, xv, .int .i64 e, kv, yv, .int .i64 e, .int .i64 i] ∧ KeepO N oL d ∧ xl.length ≤ 2000 ∧ IsDisk dp d I1 ∧ IsRf rp d I2 ∧ IsJ dp oL jv J ∧ IsK rp oL kv K ∧ Own ⟨h, []⟩ [I1, I2, J, K, row xv 9 1 xl.length (strs xl), row yv 9 1 xl.length (strs xl)] hh) (fun vs _ => match vs with | [_, _, _, _, _, _, .int _ i] => xs.length - i.toNat | _ => 0) ?_ ?_
    · have hk : KeepO N (openO (newD N)).2 (newD N) := keep_open hI0.1 rfl (by simp [newD])
      exact ⟨0, (openO (newD N)).2, newD N, (openO (newD N)).1, listO (openO (newD N)).2, jv, kv, xv, yv, I0, R0, J0, K0, by omega, rfl, hk, hk.lok.list, hI0, hR0, hJ0, hK0, o5.sel [3, 0, 4, 1, 5, 2] rfl⟩
    · clear o5 hI0 hR0 hJ0 hK0
      rintro vs junk hh ⟨i, oL, d, e, xl, jv, kv, xv, yv, I1, I2, J, K, hi, rfl, hk, hxl, hI, hR, hJ, hK, o⟩
      obtain ⟨jp, rfl, hjp⟩ := hJ.ptr
      obtain ⟨kp, rfl, hkp⟩ := hK.ptr
      have hx16 := hL.len
      refine StillVC.run (StillVC.lenV rfl sl35 ?_)
      refine Br.dec (fun c141 => ?_) (fun hc => absurd (by omega) hc)
      refine Br.ndec (fun hc => absurd (by first | omega | assumption | decide | exact rfl) hc) (fun c142 => ?_)
      refine CallVC.ret (same_true xl xl _ _ _ (o.rowArr 4 rfl) (o.rowArr 5 rfl) (by omega) rfl) ?_
      rintro _ m7 ⟨rfl, oc⟩
      have o7 := o.ext' oc
      clear o oc
      have hjk : jp.isNone = kp.isNone := hjp.trans hkp.symm
      have hlo := hk.lok.list
      refine Br.ff ?_
      refine RunVC.eqP (by kernel_rfl) rfl rfl ?_
      refine RunVC.eqP (by kernel_rfl) rfl rfl ?_
      refine StillVC.run (StillVC.neB bool4 rfl rfl ?_)
      refine Br.ndec (fun hc => absurd (by first | omega | assumption | decide | exact rfl) hc) (fun c163 => ?_)
      refine CallVC.ret (hJ.records (o7.satK 2 rfl) hk.lok) ?_
      intro v8 m8 oc
      have o8 := Own.call o7 oc
      simp only [List.cons_append, List.nil_append] at o8
      clear o7 oc
      refine CallVC.ret (hK.records (o8.satK 3 rfl) hk.lok) ?_
      intro v9 m9 oc
      have o9 := Own.call o8 oc
      simp only [List.cons_append, List.nil_append] at o9
      clear o8 oc
      refine CallVC.ret (same_true (listO oL) (listO oL) _ _ _ (o9.rowArr 6 rfl) (o9.rowArr 7 rfl) (by omega) rfl) ?_
      rintro _ m10 ⟨rfl, oc⟩
      have o10 := o9.ext' oc
      clear o9 oc
      refine Br.ff ?_
      refine CallVC.ret (hJ.room (o10.satK 2 rfl) hk.lok) ?_
      rintro _ m11 ⟨rfl, oc⟩
      have o11 := o10.ext' oc
      clear o10 oc
      refine CallVC.ret (hK.room (o11.satK 3 rfl) hk.lok) ?_
      rintro _ m12 ⟨rfl, oc⟩
      have o12 : Own ⟨h, []⟩ [I1, I2, J, K] m12 := (o11.ext' oc).sel [0, 1, 2, 3] rfl
      clear o11 oc
      by_cases hlt : i < xs.length
      · obtain ⟨x, hxi⟩ : ∃ x, xs[i]? = some x := ⟨xs[i], by simp [hlt]⟩
        have hmem : x ∈ xs := List.mem_of_getElem? hxi
        have ok := hO.ok x hmem
        have okw := hL.ok x hmem
        have hf0 : (opC x)[0]? = some (.int .u8 x.kind) := rfl
        have hf1 : (opC x)[1]? = some (.string ⟨⟨x.body⟩⟩) := rfl
        have hf2 : (opC x)[2]? = some x.lv := rfl
        have hf3 : (opC x)[3]? = some (.int .i64 x.after) := rfl
        have hf4 : (opC x)[4]? = some (.int .i64 x.writes) := rfl
        have hf5 : (opC x)[5]? = some (.int .i64 x.bytes) := rfl
        have hA1 := hO.arr.ext o12.ext
        refine Br.ndec (fun hc => absurd (by first | omega | assumption | decide | exact rfl) hc) (fun c260 => ?_)
        refine StillVC.run (StillVC.lenV rfl sl35 ?_)
        refine Br.dec (fun hc => absurd hc (by omega)) (fun c262 => ?_)
        refine StillVC.run (StillVC.idxN sl35 ty43 hA1 rfl (by omega) (by omega) ?_)
        refine StillVC.run (StillVC.loadFT ty43 hA1 (fun _ => rfl) (by decide) rfl (by assumption) ?_)
        (refine RunVC.alloc o12 ty43 ?_; intro b265 m265 o265)
        unfold opC
        obtain ⟨la, lc, hlv, _⟩ := ok.arr
        have hxl : (strs x.list).length = x.list.length := by simp
        rw [hxl] at hlv
        have hAr : Arr h (.slice la x.list.length lc) (strs x.list) := by rw [← hlv]; exact ok.arr
        rw [hlv]
        clear hf0 hf1 hf2 hf3 hf4 hf5 hA1
        (refine RunVC.storeL o265 4 rfl ty43 rfl (by decide) (And.intro ⟨rfl, rfl⟩ ?_); intro m270 o270)
        refine StillVC.run (StillVC.fieldAddr st43 rfl rfl rfl ?_)
        refine StillVC.run (StillVC.loadO o270 4 rfl ty5 rfl rfl ?_)
        refine StillVC.run (StillVC.rem rfl rfl (by decide) ?_)
        rcases kind_six ok.kind with hk6 | hk6 | hk6 | hk6 | hk6 | hk6
        · refine Br.dec (fun c300 => ?_) (fun hc => absurd (by omega) hc)
          refine DrawVC.introG (fun h h' => h'[b265]? = h[b265]?) (fun a => a.block = b265) (fun _ => rfl) (fun h h' a v he ha hc => by rcases ha with rfl; rw [cellAt_congr he]; exact hc) [0, 1, 4, 5, 8, 9] [2, 6] [7] [0, 1, 2, 4, 5, 6, 3, 7, 8, 9] mixed (by kernel_rfl) rfl (fun _ _ _ _ h => h) ?_
          refine StillVC.fieldAddr st43 rfl rfl rfl ?_
          refine StillVCA.load1 ty9 rfl rfl ((o270.cellB 4 rfl _).trans rfl) ?_
          refine StillVC.fieldAddr st43 rfl rfl rfl ?_
          refine StillVCA.load1 ty9 rfl rfl ((o270.cellB 4 rfl _).trans rfl) ?_
          refine CallVC.ret (hJ.append (t := x.body) (by exact ht) hI (o270.lend [0, 2] [1, 3, 4] rfl) hk.lok hk.q (by have := okw.1; omega)) ?_
          rintro _ m30 ⟨rfl, I3, J3, hI3, hJ3, oc⟩
          have o30 : Own ⟨h, []⟩ [I3, J3, I2, K, box b265 [.int .u8 x.kind, .string ⟨⟨x.body⟩⟩, .slice la x.list.length lc, .int .i64 x.after, .int .i64 x.writes, .int .i64 x.bytes] 43] m30 := oc.back
          refine And.intro ((o30.satK 4 rfl).trans (o270.satK 4 rfl).symm) ?_
          clear oc o270
          refine CallVC.ret (hK.append (t := x.body) hR (o30.lend [2, 3] [0, 1, 4] rfl) hk.lok hk.q (by have := okw.1; omega)) ?_
          rintro _ m31 ⟨rfl, I4, K4, hI4, hK4, oc⟩
          have o31 : Own ⟨h, []⟩ [I4, K4, I3, J3, box b265 [.int .u8 x.kind, .string ⟨⟨x.body⟩⟩, .slice la x.list.length lc, .int .i64 x.after, .int .i64 x.writes, .int .i64 x.bytes] 43] m31 := oc.back
          clear oc o30
          refine Ar.i64 (by omega) (by omega) ?_
          refine ⟨rfl, ?_⟩
          have o32 := Own.nilRow (Own.nilRow (o31.sel [2, 0, 3, 1] rfl) 9 1) 9 1
          exact ⟨⟨i + 1, (appO oL d x.body).2.1, (appO oL d x.body).2.2, (appO oL d x.body).1, [], .pointer jp, .pointer kp, .slice none 0 0, .slice none 0 0, I3, I4, J3, K4, by omega, rfl, keep_app hk x.body, by simp, hI3, hI4, hJ3, hK4, o32⟩, by simp only; omega⟩
        · refine Br.dec (fun hc => absurd hc (by omega)) (fun c340 => ?_)
          refine Br.dec (fun c341 => ?_) (fun hc => absurd (by omega) hc)
          refine DrawVC.introG (fun h h' => h'[b265]? = h[b265]?) (fun a => a.block = b265) (fun _ => rfl) (fun h h' a v he ha hc => by rcases ha with rfl; rw [cellAt_congr he]; exact hc) [0, 1, 4, 5, 8, 9] [2, 6] [7] [0, 1, 2, 4, 5, 6, 3, 7, 8, 9] mixed (by kernel_rfl) rfl (fun _ _ _ _ h => h) ?_
          refine StillVC.fieldAddr st43 rfl rfl rfl ?_
          refine StillVCA.load1 ty22 rfl rfl ((o270.cellB 4 rfl _).trans rfl) ?_
          refine StillVC.fieldAddr st43 rfl rfl rfl ?_
          refine StillVCA.load1 ty22 rfl rfl ((o270.cellB 4 rfl _).trans rfl) ?_
          refine CallVC.ret (hJ.rewrite (by exact ht) hI (o270.lend [0, 2] [1, 3, 4] rfl) hk.lok hk.q (by exact hAr) okw.2.1 okw.2.2) ?_
          rintro _ m30 ⟨rfl, I3, J3, hI3, hJ3, oc⟩
          have o30 : Own ⟨h, []⟩ [I3, J3, I2, K, box b265 [.int .u8 x.kind, .string ⟨⟨x.body⟩⟩, .slice la x.list.length lc, .int .i64 x.after, .int .i64 x.writes, .int .i64 x.bytes] 43] m30 := oc.back
          refine And.intro ((o30.satK 4 rfl).trans (o270.satK 4 rfl).symm) ?_
          clear oc o270
          refine CallVC.ret (hK.rewrite hR (o30.lend [2, 3] [0, 1, 4] rfl) hk.lok hk.q (by exact hAr) okw.2.1 okw.2.2) ?_
          rintro _ m31 ⟨rfl, I4, K4, hI4, hK4, oc⟩
          have o31 : Own ⟨h, []⟩ [I4, K4, I3, J3, box b265 [.int .u8 x.kind, .string ⟨⟨x.body⟩⟩, .slice la x.list.length lc, .int .i64 x.after, .int .i64 x.writes, .int .i64 x.bytes] 43] m31 := oc.back
          clear oc o30
          refine Ar.i64 (by omega) (by omega) ?_
          refine ⟨rfl, ?_⟩
          have o32 := Own.nilRow (Own.nilRow (o31.sel [2, 0, 3, 1] rfl) 9 1) 9 1
          exact ⟨⟨i + 1, (rewO oL d x.list).2.1, (rewO oL d x.list).2.2, (rewO oL d x.list).1, [], .pointer jp, .pointer kp, .slice none 0 0, .slice none 0 0, I3, I4, J3, K4, by omega, rfl, keep_rew hk x.list, by simp, hI3, hI4, hJ3, hK4, o32⟩, by simp only; omega⟩
        · refine Br.dec (fun hc => absurd hc (by omega)) (fun c380 => ?_)
          refine Br.dec (fun hc => absurd hc (by omega)) (fun c381 => ?_)
          refine Br.dec (fun c382 => ?_) (fun hc => absurd (by omega) hc)
          refine StillVC.run (StillVC.fieldAddr st43 rfl rfl rfl ?_)
          refine StillVC.run (StillVC.loadO o270 4 rfl ty3 rfl rfl ?_)
          refine StillVC.run (StillVC.fieldAddr st43 rfl rfl rfl ?_)
          refine StillVC.run (StillVC.loadO o270 4 rfl ty3 rfl rfl ?_)
          have o271 := o270.sel [0, 1, 4] rfl
          refine CallVC.ret (fail_disk _ dp d I1 x.writes x.bytes _ hI (o271.lend [0] [1, 2] rfl) (by rw [hk.q]; simp)) ?_
          rintro _ m30 ⟨rfl, I3, hI3, oc⟩
          have o30 : Own ⟨h, []⟩ [I3, I2, box b265 [.int .u8 x.kind, .string ⟨⟨x.body⟩⟩, .slice la x.list.length lc, .int .i64 x.after, .int .i64 x.writes, .int .i64 x.bytes] 43] m30 := oc.back
          clear oc o271 o270
          refine StillVC.run (StillVC.fieldAddr st43 rfl rfl rfl ?_)
          refine StillVC.run (StillVC.loadO o30 2 rfl ty3 rfl rfl ?_)
          refine StillVC.run (StillVC.fieldAddr st43 rfl rfl rfl ?_)
          refine StillVC.run (StillVC.loadO o30 2 rfl ty3 rfl rfl ?_)
          refine CallVC.ret (rfail_spec _ rp d I2 x.writes x.bytes _ hR (o30.lend [1] [0, 2] rfl) (by rw [hk.q]; simp)) ?_
          rintro _ m31 ⟨rfl, I4, hI4, oc⟩
          have o31 : Own ⟨h, []⟩ [I4, I3] m31 := (Own.back oc).sel [0, 1] rfl
          clear oc o30
          have hkl := (fail_keep d x.writes x.bytes).1
          have hkq : (d.fail x.writes x.bytes).q = [] := by
            cases hoff : d.off with
            | true =>
              have : d.fail x.writes x.bytes = d := by unfold Dk.fail; rw [if_pos hoff]
              rw [this]; exact hk.q
            | false => exact ((fail_keep d x.writes x.bytes).2 hoff).1
          generalize d.fail x.writes x.bytes = d2 at *
          refine CallVC.ret (start_disk _ dp d2 I3 _ hI3 (o31.lend [1] [0] rfl)) ?_
          rintro _ m32 ⟨rfl, I5, hI5, oc⟩
          have o32 : Own ⟨h, []⟩ [I5, I4] m32 := oc.back
          clear oc o31
          refine CallVC.ret (rstart_spec _ rp d2 I4 _ hI4 (o32.lend [1] [0] rfl)) ?_
          rintro _ m33 ⟨rfl, I6, hI6, oc⟩
          have o33 : Own ⟨h, []⟩ [I6, I5] m33 := oc.back
          have o34 := o33.sel [1, 0] rfl
          clear oc o32 o33
          have hsq : d2.start.q = [] := hkq
          have hsl : d2.start.st.length = N := hkl.trans hk.len
          generalize d2.start = d3 at *
          have hkd : KeepO N (openO d3).2 d3 := keep_open hI5.1 hsq hsl
          refine CallVC.ret (IsJ.opened (by exact ht) hI5 (o34.lend [0] [1] rfl) hsq) ?_
          rintro _ m40 ⟨jv2, xv2, J5, rfl, hJ5, oc⟩
          have o40 : Own ⟨h, []⟩ [I5, J5, row xv2 9 1 (listO (openO d3).2).length (strs (listO (openO d3).2)), I6] m40 := oc.back
          clear oc
          refine CallVC.ret (IsK.opened hI6 (o40.lend [3] [0, 1, 2] rfl) hsq) ?_
          rintro _ m41 ⟨kv2, yv2, K5, rfl, hK5, oc⟩
          have o41 : Own ⟨h, []⟩ [I6, K5, row yv2 9 1 (listO (openO d3).2).length (strs (listO (openO d3).2)), I5, J5, row xv2 9 1 (listO (openO d3).2).length (strs (listO (openO d3).2))] m41 := oc.back
          clear oc o40
          refine Ar.i64 (by omega) (by omega) ?_
          refine ⟨rfl, ?_⟩
          exact ⟨⟨i + 1, (openO d3).2, d3, (openO d3).1, listO (openO d3).2, jv2, kv2, xv2, yv2, I5, I6, J5, K5, by omega, rfl, hkd, hkd.lok.list, hI5, hI6, hJ5, hK5, o41.sel [3, 0, 4, 1, 5, 2] rfl⟩, by simp only; omega⟩
        · refine Br.dec (fun hc => absurd hc (by omega)) (fun c460 => ?_)
          refine Br.dec (fun hc => absurd hc (by omega)) (fun c461 => ?_)
          refine Br.dec (fun hc => absurd hc (by omega)) (fun c462 => ?_)
          refine Br.dec (fun c463 => ?_) (fun hc => absurd (by omega) hc)
          refine StillVC.run (StillVC.fieldAddr st43 rfl rfl rfl ?_)
          refine StillVC.run (StillVC.loadO o270 4 rfl ty3 rfl rfl ?_)
          refine StillVC.run (StillVC.fieldAddr st43 rfl rfl rfl ?_)
          refine StillVC.run (StillVC.loadO o270 4 rfl ty3 rfl rfl ?_)
          refine StillVC.run (StillVC.fieldAddr st43 rfl rfl rfl ?_)
          refine StillVC.run (StillVC.loadO o270 4 rfl ty3 rfl rfl ?_)
          have o271 := o270.sel [0, 1, 2, 3, 4] rfl
          refine CallVC.ret (arm_disk _ dp d I1 x.after x.writes x.bytes _ hI (o271.lend [0] [1, 2, 3, 4] rfl) (by have := ok.after.2; omega)) ?_
          rintro _ m30 ⟨rfl, I3, hI3, oc⟩
          have o30 : Own ⟨h, []⟩ [I3, I2, J, K, box b265 [.int .u8 x.kind, .string ⟨⟨x.body⟩⟩, .slice la x.list.length lc, .int .i64 x.after, .int .i64 x.writes, .int .i64 x.bytes] 43] m30 := oc.back
          clear oc o271 o270
          refine StillVC.run (StillVC.fieldAddr st43 rfl rfl rfl ?_)
          refine StillVC.run (StillVC.loadO o30 4 rfl ty3 rfl rfl ?_)
          refine StillVC.run (StillVC.fieldAddr st43 rfl rfl rfl ?_)
          refine StillVC.run (StillVC.loadO o30 4 rfl ty3 rfl rfl ?_)
          refine StillVC.run (StillVC.fieldAddr st43 rfl rfl rfl ?_)
          refine StillVC.run (StillVC.loadO o30 4 rfl ty3 rfl rfl ?_)
          refine CallVC.ret (rarm_spec _ rp d I2 x.after x.writes x.bytes _ hR (o30.lend [1] [0, 2, 3, 4] rfl) (by have := ok.after.2; omega)) ?_
          rintro _ m31 ⟨rfl, I4, hI4, oc⟩
          have o31 : Own ⟨h, []⟩ [I4, I3, J, K, box b265 [.int .u8 x.kind, .string ⟨⟨x.body⟩⟩, .slice la x.list.length lc, .int .i64 x.after, .int .i64 x.writes, .int .i64 x.bytes] 43] m31 := oc.back
          clear oc o30
          have hka : KeepO N oL (d.armed x.after x.writes x.bytes) := by
            refine ⟨(arm_qq d x.after x.writes x.bytes).trans hk.q, ?_, hk.lok, hk.n⟩
            have : (d.armed x.after x.writes x.bytes).st = d.st := by unfold Dk.armed; split <;> rfl
            rw [this]; exact hk.len
          refine Ar.i64 (by omega) (by omega) ?_
          refine ⟨rfl, ?_⟩
          have o32 := Own.nilRow (Own.nilRow (o31.sel [1, 0, 2, 3] rfl) 9 1) 9 1
          exact ⟨⟨i + 1, oL, d.armed x.after x.writes x.bytes, e, [], .pointer jp, .pointer kp, .slice none 0 0, .slice none 0 0, I3, I4, J, K, by omega, rfl, hka, by simp, hI3, hI4, hJ, hK, o32⟩, by simp only; omega⟩
        · refine Br.dec (fun hc => absurd hc (by omega)) (fun c500 => ?_)
          refine Br.dec (fun hc => absurd hc (by omega)) (fun c501 => ?_)
          refine Br.dec (fun hc => absurd hc (by omega)) (fun c502 => ?_)
          refine Br.dec (fun hc => absurd hc (by omega)) (fun c503 => ?_)
          refine Br.dec (fun c504 => ?_) (fun hc => absurd (by omega) hc)
          refine StillVC.run (StillVC.fieldAddr st43 rfl rfl rfl ?_)
          refine StillVC.run (StillVC.loadO o270 4 rfl ty3 rfl rfl ?_)
          refine StillVC.run (StillVC.fieldAddr st43 rfl rfl rfl ?_)
          refine StillVC.run (StillVC.loadO o270 4 rfl ty3 rfl rfl ?_)
          refine StillVC.run (StillVC.fieldAddr st43 rfl rfl rfl ?_)
          refine StillVC.run (StillVC.loadO o270 4 rfl ty3 rfl rfl ?_)
          have o271 := o270.sel [0, 1, 4] rfl
          refine CallVC.ret (rot_disk _ dp d I1 x.after x.writes x.bytes _ hI (o271.lend [0] [1, 2] rfl)) ?_
          rintro _ m30 ⟨rfl, I3, hI3, oc⟩
          have o30 : Own ⟨h, []⟩ [I3, I2, box b265 [.int .u8 x.kind, .string ⟨⟨x.body⟩⟩, .slice la x.list.length lc, .int .i64 x.after, .int .i64 x.writes, .int .i64 x.bytes] 43] m30 := oc.back
          clear oc o271 o270
          refine StillVC.run (StillVC.fieldAddr st43 rfl rfl rfl ?_)
          refine StillVC.run (StillVC.loadO o30 2 rfl ty3 rfl rfl ?_)
          refine StillVC.run (StillVC.fieldAddr st43 rfl rfl rfl ?_)
          refine StillVC.run (StillVC.loadO o30 2 rfl ty3 rfl rfl ?_)
          refine StillVC.run (StillVC.fieldAddr st43 rfl rfl rfl ?_)
          refine StillVC.run (StillVC.loadO o30 2 rfl ty3 rfl rfl ?_)
          refine CallVC.ret (rrot_spec _ rp d I2 x.after x.writes x.bytes _ hR (o30.lend [1] [0, 2] rfl)) ?_
          rintro _ m31 ⟨rfl, I4, hI4, oc⟩
          have o31 : Own ⟨h, []⟩ [I4, I3] m31 := (Own.back oc).sel [0, 1] rfl
          have o34 := o31.sel [1, 0] rfl
          clear oc o30 o31
          have hsl : (d.rot x.after x.writes x.bytes).st.length = N := (rot_dok (show DOK d from hI.1) x.after x.writes x.bytes).2.trans hk.len
          have hsq : (d.rot x.after x.writes x.bytes).q = [] := by
            have : (d.rot x.after x.writes x.bytes).q = d.q := by unfold Dk.rot; split <;> rfl
            rw [this]; exact hk.q
          generalize d.rot x.after x.writes x.bytes = d3 at *
          have hkd : KeepO N (openO d3).2 d3 := keep_open hI3.1 hsq hsl
          refine CallVC.ret (IsJ.opened (by exact ht) hI3 (o34.lend [0] [1] rfl) hsq) ?_
          rintro _ m40 ⟨jv2, xv2, J5, rfl, hJ5, oc⟩
          have o40 : Own ⟨h, []⟩ [I3, J5, row xv2 9 1 (listO (openO d3).2).length (strs (listO (openO d3).2)), I4] m40 := oc.back
          clear oc
          refine CallVC.ret (IsK.opened hI4 (o40.lend [3] [0, 1, 2] rfl) hsq) ?_
          rintro _ m41 ⟨kv2, yv2, K5, rfl, hK5, oc⟩
          have o41 : Own ⟨h, []⟩ [I4, K5, row yv2 9 1 (listO (openO d3).2).length (strs (listO (openO d3).2)), I3, J5, row xv2 9 1 (listO (openO d3).2).length (strs (listO (openO d3).2))] m41 := oc.back
          clear oc o40
          refine Ar.i64 (by omega) (by omega) ?_
          refine ⟨rfl, ?_⟩
          exact ⟨⟨i + 1, (openO d3).2, d3, (openO d3).1, listO (openO d3).2, jv2, kv2, xv2, yv2, I3, I4, J5, K5, by omega, rfl, hkd, hkd.lok.list, hI3, hI4, hJ5, hK5, o41.sel [3, 0, 4, 1, 5, 2] rfl⟩, by simp only; omega⟩
        · refine Br.dec (fun hc => absurd hc (by omega)) (fun c550 => ?_)
          refine Br.dec (fun hc => absurd hc (by omega)) (fun c551 => ?_)
          refine Br.dec (fun hc => absurd hc (by omega)) (fun c552 => ?_)
          refine Br.dec (fun hc => absurd hc (by omega)) (fun c553 => ?_)
          refine Br.dec (fun hc => absurd hc (by omega)) (fun c554 => ?_)
          refine Br.dec (fun c555 => ?_) (fun hc => absurd (by omega) hc)
          refine StillVC.run (StillVC.fieldAddr st43 rfl rfl rfl ?_)
          refine StillVC.run (StillVC.loadO o270 4 rfl ty3 rfl rfl ?_)
          have o271 := o270.sel [0, 1, 4] rfl
          refine CallVC.ret (stale_disk _ dp d I1 x.after _ hI (o271.lend [0] [1, 2] rfl)) ?_
          rintro _ m30 ⟨rfl, I3, hI3, oc⟩
          have o30 : Own ⟨h, []⟩ [I3, I2, box b265 [.int .u8 x.kind, .string ⟨⟨x.body⟩⟩, .slice la x.list.length lc, .int .i64 x.after, .int .i64 x.writes, .int .i64 x.bytes] 43] m30 := oc.back
          clear oc o271 o270
          refine StillVC.run (StillVC.fieldAddr st43 rfl rfl rfl ?_)
          refine StillVC.run (StillVC.loadO o30 2 rfl ty3 rfl rfl ?_)
          refine CallVC.ret (rstale_spec _ rp d I2 x.after _ hR (o30.lend [1] [0, 2] rfl)) ?_
          rintro _ m31 ⟨rfl, I4, hI4, oc⟩
          have o31 : Own ⟨h, []⟩ [I4, I3] m31 := (Own.back oc).sel [0, 1] rfl
          have o34 := o31.sel [1, 0] rfl
          clear oc o30 o31
          have hsl : (d.stale x.after).st.length = N := (stale_dok (show DOK d from hI.1) x.after).2.trans hk.len
          have hsq : (d.stale x.after).q = [] := by
            have : (d.stale x.after).q = d.q := by unfold Dk.stale; split <;> rfl
            rw [this]; exact hk.q
          generalize d.stale x.after = d3 at *
          have hkd : KeepO N (openO d3).2 d3 := keep_open hI3.1 hsq hsl
          refine CallVC.ret (IsJ.opened (by exact ht) hI3 (o34.lend [0] [1] rfl) hsq) ?_
          rintro _ m40 ⟨jv2, xv2, J5, rfl, hJ5, oc⟩
          have o40 : Own ⟨h, []⟩ [I3, J5, row xv2 9 1 (listO (openO d3).2).length (strs (listO (openO d3).2)), I4] m40 := oc.back
          clear oc
          refine CallVC.ret (IsK.opened hI4 (o40.lend [3] [0, 1, 2] rfl) hsq) ?_
          rintro _ m41 ⟨kv2, yv2, K5, rfl, hK5, oc⟩
          have o41 : Own ⟨h, []⟩ [I4, K5, row yv2 9 1 (listO (openO d3).2).length (strs (listO (openO d3).2)), I3, J5, row xv2 9 1 (listO (openO d3).2).length (strs (listO (openO d3).2))] m41 := oc.back
          clear oc o40
          refine Ar.i64 (by omega) (by omega) ?_
          refine ⟨rfl, ?_⟩
          exact ⟨⟨i + 1, (openO d3).2, d3, (openO d3).1, listO (openO d3).2, jv2, kv2, xv2, yv2, I3, I4, J5, K5, by omega, rfl, hkd, hkd.lok.list, hI3, hI4, hJ5, hK5, o41.sel [3, 0, 4, 1, 5, 2] rfl⟩, by simp only; omega⟩
      · obtain rfl : i = xs.length := by omega
        refine Br.ndec (fun hc => absurd (by first | omega | assumption | decide | exact rfl) hc) (fun c800 => ?_)
        refine StillVC.run (StillVC.lenV rfl sl35 ?_)
        refine Br.dec (fun c802 => ?_) (fun hc => absurd (by omega) hc)
        refine CallVC.ret (fail_disk _ dp d I1 0 0 _ hI (o12.lend [0] [1, 2, 3] rfl) (by rw [hk.q]; simp)) ?_
        rintro _ m20 ⟨rfl, I3, hI3, oc⟩
        have o13 : Own ⟨h, []⟩ [I3, I2, J, K] m20 := oc.back
        clear oc o12
        refine CallVC.ret (rfail_spec _ rp d I2 0 0 _ hR (o13.lend [1] [0, 2, 3] rfl) (by rw [hk.q]; simp)) ?_
        rintro _ m21 ⟨rfl, I4, hI4, oc⟩
        have o14 : Own ⟨h, []⟩ [I4, I3, J, K] m21 := oc.back
        clear oc o13
        have hkl := (fail_keep d 0 0).1
        have hkq : (d.fail 0 0).q = [] := by
          cases hoff : d.off with
          | true =>
            have : d.fail 0 0 = d := by unfold Dk.fail; rw [if_pos hoff]
            rw [this]; exact hk.q
          | false => exact ((fail_keep d 0 0).2 hoff).1
        generalize d.fail 0 0 = d2 at *
        refine CallVC.ret (start_disk _ dp d2 I3 _ hI3 (o14.lend [1] [0, 2, 3] rfl)) ?_
        rintro _ m22 ⟨rfl, I5, hI5, oc⟩
        have o15 : Own ⟨h, []⟩ [I5, I4, J, K] m22 := oc.back
        clear oc o14
        refine CallVC.ret (rstart_spec _ rp d2 I4 _ hI4 (o15.lend [1] [0, 2, 3] rfl)) ?_
        rintro _ m23 ⟨rfl, I6, hI6, oc⟩
        have o16 : Own ⟨h, []⟩ [I6, I5, J, K] m23 := oc.back
        clear oc o15
        have hsq : d2.start.q = [] := hkq
        have hsl : d2.start.st.length = N := hkl.trans hk.len
        generalize d2.start = d3 at *
        refine LoopVC.intro [4, 19, 20, 21, 22, 23, 222, 223, 224, 225, 226, 227, 228, 229, 230, 231, 232, 233, 234, 235, 236, 237, 238, 239, 240, 241] [19] (fun vs hh => ∃ (i : Nat), i ≤ N ∧ vs = [.int .i64 i] ∧ Own ⟨h, []⟩ [I6, I5, J, K] hh) (fun vs _ => match vs with | [.int _ i] => N - i.toNat | _ => 0) ?_ ?_
        · exact ⟨0, by omega, rfl, o16⟩
        · clear o16
          rintro vs junk2 hh2 ⟨i, hiN, rfl, o⟩
          by_cases hlt2 : i < N
          · refine Br.dec (fun c900 => ?_) (fun hc => absurd (by omega) hc)
            refine CallVC.ret (read_disk _ dp d3 I5 i _ hI5 (o.lend [1] [0, 2, 3] rfl) (by rw [hsq]; simp)) ?_
            rintro _ m24 ⟨rfl, oc⟩
            have o17 := o.ext' oc
            clear o oc
            refine CallVC.ret (rread_spec _ rp d3 I6 i _ hI6 (o17.lend [0] [1, 2, 3] rfl) (by rw [hsq]; simp)) ?_
            rintro _ m25 ⟨rfl, oc⟩
            have o18 := o17.ext' oc
            clear o17 oc
            generalize (d3.read (i : Int)).1 = tt
            refine Br.ndec (fun hc => absurd (by first | omega | assumption | decide | exact rfl) hc) (fun c940 => ?_)
            refine Ar.i64 (by omega) (by omega) ?_
            refine ⟨rfl, ?_⟩
            exact ⟨⟨i + 1, by omega, by simp, o18⟩, by simp only; omega⟩
          · obtain rfl : i = N := by omega
            refine Br.dec (fun hc => absurd hc (by omega)) (fun c960 => ?_)
            refine RetVC.one rfl ?_
            exact ⟨rfl, o.sel [] rfl⟩

end Go.Proofs.YtfjajkgfgigodaaGreatDoor
