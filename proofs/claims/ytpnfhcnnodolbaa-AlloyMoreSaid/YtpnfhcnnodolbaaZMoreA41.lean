/- Texts of one proof, laid together: LaZb, LaZ. -/
import Derived.Test.YtpnfhcnnodolbaaZY10
import Derived.Test.YtpnfhcnnodolbaaZY7
import Derived.Test.YtpnfhcnnodolbaaZY2
import Derived.Test.YtpnfhcnnodolbaaZMoreA34
import Derived.Test.YtpnfhcnnodolbaaZY31
import Derived.Test.YtpnfhcnnodolbaaZY29
import Derived.Test.YtpnfhcnnodolbaaZY28
import Derived.Test.YtpnfhcnnodolbaaZY19
import Derived.Test.YtpnfhcnnodolbaaZY18
import Derived.Test.YtpnfhcnnodolbaaZY17
import Derived.Test.YtpnfhcnnodolbaaZY16
import Derived.Test.YtpnfhcnnodolbaaZY8
import Derived.Test.YtpnfhcnnodolbaaZMoreA35
import Derived.Test.YtpnfhcnnodolbaaZY12
import Derived.Test.YtpnfhcnnodolbaaZY3
import Derived.Test.YtpnfhcnnodolbaaZY4
import Derived.Test.YtpnfhcnnodolbaaZY9
import Derived.Test.YtpnfhcnnodolbaaZY1
import Derived.Test.YtpnfhcnnodolbaaZY22
import Derived.Test.YtpnfhcnnodolbaaZY20
import Derived.Test.YtpnfhcnnodolbaaZMoreA36
import Derived.Test.YtpnfhcnnodolbaaZY26
import Derived.Test.YtpnfhcnnodolbaaZY25
import Derived.Test.YtpnfhcnnodolbaaZY11
import Derived.Test.YtpnfhcnnodolbaaZY21
import Derived.Test.YtpnfhcnnodolbaaZY5
import Derived.Test.YtpnfhcnnodolbaaZY13
import Derived.Test.YtpnfhcnnodolbaaZY23
import Derived.Test.YtpnfhcnnodolbaaZY14
import Derived.Test.YtpnfhcnnodolbaaZY27
import Derived.Test.YtpnfhcnnodolbaaZY6
import Derived.Test.YtpnfhcnnodolbaaZY30
import Derived.Test.YtpnfhcnnodolbaaZMoreA40
import Derived.Test.YtpnfhcnnodolbaaZMoreA39
import Derived.Test.YtpnfhcnnodolbaaZMoreA38
import Derived.Laws.OwnMore
import Derived.Test.YtpnfhcnnodolbaaZY32
import Derived.Test.YtpnfhcnnodolbaaZY33
set_option linter.unusedVariables false
set_option linter.unusedSimpArgs false
set_option linter.unusedSectionVars false
set_option linter.unnecessarySimpa false
set_option maxRecDepth 100000
namespace Go.Proofs.Ytpnfhcnnodolbaa
open Go Go.RowKit Game
set_option maxHeartbeats 40000000 in
theorem stZ15 {yB yD yE yF yG yH yI yK yL yM yN yO yP yQ yR yS yT yU yV yW yX yZ zA zB zC zD zE zF zG zH zI zJ zK zL zM zN zO zP zQ zR zS zT zU zV zW zX zY zZ uA uB uC uD uE uF uG uH uI uJ uK uL uM uN uO uP uQ uR uS uT uU uV uW uX uY uZ iA iB iC iD iE iF iG iH iI iJ iK iL iM iN iO iP iQ iR iS iT iU iV iW iX iY iZ oA oB oC oD oE oF oG oH oI oJ oK oL oM oN oO oP oQ oR oS oT oU oV oW oX oY oZ qA qB qC qD qE qF qG qH qI qJ qK qL qM qN qO qP qQ qR qS qT qU qV : Value} {l : List Met} {bm om n cap Bm : Nat} {mp m1 m2 m3 m4 : Int} {T : Nat} {u c N D : Int} {s b : Bool} {w : World} (hl : l.length = n) (n0 : 0 < n) (n5 : n ≤ 5) (hcl : ∀ i, i < n → ∀ r, r < 5 → w.cell? ⟨bm, om + i * 5 + r, none⟩ = some (mtV (mtl l i) r)) (c0 : w.cell? ⟨Bm, 0, none⟩ = some (.int .i64 mp)) (c1 : w.cell? ⟨Bm, 1, none⟩ = some (.int .i64 m1)) (c2 : w.cell? ⟨Bm, 2, none⟩ = some (.int .i64 m2)) (c3 : w.cell? ⟨Bm, 3, none⟩ = some (.int .i64 m3)) (c4 : w.cell? ⟨Bm, 4, none⟩ = some (.int .i64 m4)) (t0 : w.cell? ⟨T, 0, none⟩ = some (.int .i64 u)) (t1 : w.cell? ⟨T, 1, none⟩ = some (.int .i64 c)) (hL : ∀ (a9 : Option Addr) (c9 : Nat) W, Mts W a9 (apM l ⟨mp, m1, m2, m3, m4⟩) → Calls Try.prog 44 #[.slice a9 (n + 1) c9, .agg #[.int .i64 u, .int .i64 c], .bool s] W fun e w' => e = .returned (.tuple #[.agg #[.int .i64 N, .int .i64 D], .bool b, .bool true]) ∧ Ext W w') :
 Code.wp Try.prog (rgn Try.f15 15) (fun e a' w' => e = .normal ∧ ∃ (Bb : Nat) (oV' oW' oX' oY' oZ' qA' qB' qC' qD' qE' qF' qG' qH' : Value), a' = { tmps := #[.slice (some ⟨bm, om, none⟩) n cap,yB,.bool s,yD,yE,yF,yG,yH,yI,.pointer (some ⟨T, 0, none⟩),yK,yL,yM,yN,yO,yP,yQ,yR,yS,.bool true,yU,yV,yW,yX,.pointer (some ⟨Bm, 0, none⟩),.pointer (some ⟨Bb, 0, none⟩),.bool b,zB,zC,zD,zE,zF,zG,zH,zI,zJ,zK,zL,zM,zN,zO,zP,zQ,zR,zS,zT,zU,zV,zW,zX,zY,zZ,uA,uB,uC,uD,uE,uF,uG,uH,uI,uJ,uK,uL,uM,uN,uO,uP,uQ,uR,uS,uT,uU,uV,uW,uX,uY,uZ,iA,iB,iC,iD,iE,iF,iG,iH,iI,iJ,iK,iL,iM,iN,iO,iP,iQ,iR,iS,iT,iU,iV,iW,iX,iY,iZ,oA,oB,oC,oD,oE,oF,oG,oH,oI,oJ,oK,oL,oM,oN,oO,oP,oQ,oR,oS,oT,oU,oV',oW',oX',oY',oZ',qA',qB',qC',qD',qE',qF',qG',qH',qI,qJ,qK,qL,qM,qN,qO,qP,qQ,qR,qS,qT,qU,qV], defers := [] } ∧ Ext w w' ∧ C2 w' Bb N D) { tmps := #[.slice (some ⟨bm, om, none⟩) n cap,yB,.bool s,yD,yE,yF,yG,yH,yI,.pointer (some ⟨T, 0, none⟩),yK,yL,yM,yN,yO,yP,yQ,yR,yS,yT,yU,yV,yW,yX,.pointer (some ⟨Bm, 0, none⟩),yZ,zA,zB,zC,zD,zE,zF,zG,zH,zI,zJ,zK,zL,zM,zN,zO,zP,zQ,zR,zS,zT,zU,zV,zW,zX,zY,zZ,uA,uB,uC,uD,uE,uF,uG,uH,uI,uJ,uK,uL,uM,uN,uO,uP,uQ,uR,uS,uT,uU,uV,uW,uX,uY,uZ,iA,iB,iC,iD,iE,iF,iG,iH,iI,iJ,iK,iL,iM,iN,iO,iP,iQ,iR,iS,iT,iU,iV,iW,iX,iY,iZ,oA,oB,oC,oD,oE,oF,oG,oH,oI,oJ,oK,oL,oM,oN,oO,oP,oQ,oR,oS,oT,oU,oV,oW,oX,oY,oZ,qA,qB,qC,qD,qE,qF,qG,qH,qI,qJ,qK,qL,qM,qN,qO,qP,qQ,qR,qS,qT,qU,qV], defers := [] } w := by
 conv => arg 2; whnf
 refine st_intro (fun Q2 hQ2 => ?_)
 have hpan : ∀ c a a' w w', Q2 (.panic c) a w → Q2 (.panic c) a' w' := by rw [hQ2]; rintro c a a' w w' ⟨h, _⟩; cases h
 replace hQ2 := hid hQ2
 replace hcl := hid hcl
 replace hL := hid hL
 have hRD_ := hid (fun w' (x_ : Ext w w') => And.intro (Ext.cell x_ c0) (And.intro (Ext.cell x_ c1) (And.intro (Ext.cell x_ c2) (And.intro (Ext.cell x_ c3) (And.intro (Ext.cell x_ c4) (And.intro (Ext.cell x_ t0) (Ext.cell x_ t1)))))))
 refine wp_region_held_drew (S := fun w' => Ext w w') (by kernel_rfl) exE fun hHeld => ?_
 try simp only [List.append_eq, List.cons_append, List.nil_append]
 refine name_any (fun W0 hW => ?_)
 have s0 : Ext w W0 := by rw [hW]; exact hHeld
 clear hW hHeld
 refine tkB (i := 1) (v := ?_) rfl hpan ?yl ?_
 case yl => (intro w hSw; (try dsimp only at hSw);  go_simp); with_reducible rfl
 try simp only [sxA, sxB, sxC, Act.put, sxD, sxE, sxF]
 refine tkB (i := 3) (v := ?_) rfl hpan ?yl ?_
 case yl => (intro w hSw; have k_ := hRD_.out w hSw; go_simp); with_reducible rfl
 try simp only [sxA, sxB, sxC, Act.put, sxD, sxE, sxF]
 refine tkB (i := 6) (v := ?_) rfl hpan ?yl ?_
 case yl => (intro w hSw; have k_ := hRD_.out w hSw; go_simp); with_reducible rfl
 try simp only [sxA, sxB, sxC, Act.put, sxD, sxE, sxF]
 refine tkB (i := 7) (v := ?_) rfl hpan ?yl ?_
 case yl => (intro w hSw; (try dsimp only at hSw);  go_simp); with_reducible rfl
 try simp only [sxA, sxB, sxC, Act.put, sxD, sxE, sxF]
 refine wpAnyH_ready (rs := [0, 4, 13]) (by kernel_rfl) (by simp) ?_
 refine AllReadyH.cons (o := _) rfl (fun K hK => ?_) ?_
 ·skip
  go_simp
  refine hK.out _ _ (s0.trans (Ext.alloc (Ext.refl _) _)) (fun _ => ?_)
  clear hK K
  try simp only [sxA, sxB, sxC, Act.put, sxD, sxE, sxF]
  refine name_any (fun W1 hW => ?_)
  have e1 : Ext W0 W1 := by rw [hW]; exact Ext.alloc (Ext.refl _) _
  have s1 := s0.trans e1
  clear hW
  obtain ⟨bz, hb_⟩ : ∃ z, W0.heap.size = z := ⟨_, rfl⟩
  rw [hb_] at  ⊢
  clear hb_
  refine wpAnyH_ready (rs := [2, 4, 13]) (by kernel_rfl) (by simp) ?_
  refine AllReadyH.cons (o := _) rfl (fun K hK => ?_) ?_
  ·skip
   rw [if_pos (by rfl)]
   refine appGF_wp _ _ _ rfl 68 5 40 Try.underlying22 elemMt (by decide) (fun i r => mtV (mtl l i) r) 0 _ rfl (fun i hi => absurd hi (by omega)) bm om n cap (fun i r => mtV (mtl l i) r) rfl (fun i hi r hr => s1.cell (hcl.out i hi r hr)) n0 (by omega) (by decide) (fun i r => mtV (mtl l i) r) (fun _ _ h _ => absurd h (by omega)) (fun i r hi _ => by rw [Nat.zero_add]) ?_
   intro cp2 W2 own e2
   have s2 := s1.trans e2
   rw [Nat.zero_add] at own
   have hwb := Ext.size s1
   obtain ⟨bo, hb_⟩ : ∃ z, W1.heap.size = z := ⟨_, rfl⟩
   rw [hb_] at own hwb ⊢
   clear hb_
   replace own := hid own
   refine hK.out _ _ s2 (fun _ => ?_)
   clear hK K
   try simp only [sxA, sxB, sxC, Act.put, sxD, sxE, sxF]
   try rw [Nat.zero_add]
   refine wpAnyH_ready (rs := [4, 13]) (by kernel_rfl) (by simp) ?_
   refine AllReadyH.cons (o := _) rfl (fun K hK => ?_) ?_
   ·skip
    go_simp
    refine hK.out _ _ (s2.trans (Ext.alloc (Ext.refl _) _)) (fun _ => ?_)
    clear hK K
    try simp only [sxA, sxB, sxC, Act.put, sxD, sxE, sxF]
    refine name_any (fun W3 hW => ?_)
    have e3 : Ext W2 W3 := by rw [hW]; exact Ext.alloc (Ext.refl _) _
    have s3 := s2.trans e3
    have lit := hid (show C5 W3 W2.heap.size mp m1 m2 m3 m4 from ⟨by rw [hW]; simp [go_sem], by rw [hW]; simp [go_sem], by rw [hW]; simp [go_sem], by rw [hW]; simp [go_sem], by rw [hW]; simp [go_sem]⟩)
    clear hW
    obtain ⟨bl, hb_⟩ : ∃ z, W2.heap.size = z := ⟨_, rfl⟩
    rw [hb_] at lit ⊢
    clear hb_
    replace own := hid (OwnG.ext own.out e3)
    refine wpAnyH_ready (rs := [5, 13]) (by kernel_rfl) (by simp) ?_
    refine AllReadyH.cons (o := _) rfl (fun K hK => ?_) ?_
    ·skip
     rw [if_pos (by rfl)]
     refine appG_wp _ _ _ rfl 68 5 40 Try.underlying22 elemMt (by decide) bo (fun i r => mtV (mtl l i) r) n _ rfl bl 0 1 1 (fun _ r => mtV ⟨mp, m1, m2, m3, m4⟩ r) rfl own.out (el5 (m := ⟨mp, m1, m2, m3, m4⟩) lit.out.1 lit.out.2.1 lit.out.2.2.1 lit.out.2.2.2.1 lit.out.2.2.2.2) (by decide) (fun _ _ _ _ => rfl) (by omega) (by decide) (by have := (OwnG.block own.out bo rfl).2; omega) (fun i r => mtV (if i < n then mtl l i else ⟨mp, m1, m2, m3, m4⟩) r) (fun i r hi _ => by rw [if_pos hi]) (fun i r hi _ => by rw [if_neg (by omega)]) ?_
     intro bx cx W4 ownx g8 at8 hbx ext8
     have s4 : Ext w W4 := ext8 w s3 hwb
     have mts := hid (ap_end hl ownx)
     clear ownx g8 at8 hbx ext8 own lit
     refine hK.out _ _ s4 (fun _ => ?_)
     clear hK K
     try simp only [sxA, sxB, sxC, Act.put, sxD, sxE, sxF]
     refine wpAnyH_ready (rs := [8, 13]) (by kernel_rfl) (by simp) ?_
     refine AllReadyH.cons (o := _) rfl (fun K hK => ?_) ?_
     ·skip
      go_simp
      refine (hL.out _ _ _ mts.out).mono ?_; rintro e W5 ⟨rfl, e5⟩
      have s5 := s4.trans e5
      refine hK.out _ _ s5 (fun _ => ?_)
      clear hK K
      try simp only [sxA, sxB, sxC, Act.put, sxD, sxE, sxF]
      replace mts := hid (mts.out.ext e5)
      refine tkB (i := 9) (v := ?_) rfl hpan ?yl ?_
      case yl => (intro w hSw; (try dsimp only at hSw);  go_simp); with_reducible rfl
      try simp only [sxA, sxB, sxC, Act.put, sxD, sxE, sxF]
      refine tkB (i := 10) (v := ?_) rfl hpan ?yl ?_
      case yl => (intro w hSw; (try dsimp only at hSw);  go_simp); with_reducible rfl
      try simp only [sxA, sxB, sxC, Act.put, sxD, sxE, sxF]
      refine tkB (i := 11) (v := ?_) rfl hpan ?yl ?_
      case yl => (intro w hSw; (try dsimp only at hSw);  go_simp); with_reducible rfl
      try simp only [sxA, sxB, sxC, Act.put, sxD, sxE, sxF]
      refine tkB (i := 12) (v := ?_) rfl hpan ?yl ?_
      case yl => (intro w hSw; (try dsimp only at hSw);  go_simp); with_reducible rfl
      try simp only [sxA, sxB, sxC, Act.put, sxD, sxE, sxF]
      refine wpAnyH_ready (rs := [13]) (by kernel_rfl) (by simp) ?_
      refine AllReadyH.cons (o := _) rfl (fun K hK => ?_) AllReadyH.nil
      go_simp
      refine hK.out _ _ (s5.trans (Ext.alloc (Ext.refl _) _)) (fun _ => ?_)
      clear hK K
      try simp only [sxA, sxB, sxC, Act.put, sxD, sxE, sxF]
      refine name_any (fun W6 hW => ?_)
      have e6 : Ext W5 W6 := by rw [hW]; exact Ext.alloc (Ext.refl _) _
      have s6 := s5.trans e6
      have box := hid (show Bx2 W6 W5.heap.size 0 0 from ⟨by rw [hW]; simp [go_sem], by rw [hW]; simp [go_sem], by rw [hW]; simp [go_sem], by rw [hW]; simp [go_sem]⟩)
      have hbb : w.heap.size ≤ W5.heap.size := Ext.size s5
      clear hW
      obtain ⟨Bb, hb_⟩ : ∃ z, W5.heap.size = z := ⟨_, rfl⟩
      rw [hb_] at box hbb ⊢
      clear hb_
      replace mts := hid (mts.out.ext e6)
      refine wpAnyH_ready (rs := [14]) (by kernel_rfl) (by simp) ?_
      refine AllReadyH.cons (o := _) rfl (fun K hK => ?_) AllReadyH.nil
      obtain ⟨z0, z1, f0, f1⟩ := box.out
      have lz := cell_lt z0; dsimp only at lz
      go_simp
      refine hK.out _ _ exE (fun _ => ?_)
      clear hK K
      try simp only [sxA, sxB, sxC, Act.put, sxD, sxE, sxF]
      refine name_any (fun W7 hW => ?_)
      have s7 : Ext w W7 := by rw [hW]; exact exE
      have bs := hid (show Bx2 W7 Bb N D by rw [hW]; exact Bx2.ext (Bx2.store ⟨z0, z1, f0, f1⟩ _ _) exE)
      clear hW z0 z1 f0 f1 lz box
      refine tkB (i := 15) (v := ?_) rfl hpan ?yl ?_
      case yl => (intro w hSw; (try dsimp only at hSw);  go_simp); with_reducible rfl
      try simp only [sxA, sxB, sxC, Act.put, sxD, sxE, sxF]
      refine tkB (i := 16) (v := ?_) rfl hpan ?yl ?_
      case yl => (intro w hSw; (try dsimp only at hSw);  go_simp); with_reducible rfl
      try simp only [sxA, sxB, sxC, Act.put, sxD, sxE, sxF]
      refine wpAnyH_done (by kernel_rfl) ?_ _
      (try simp only [sxA, sxB, sxC, Act.put, sxD, sxE, sxF])
      rw [hQ2.out]
      exact ⟨rfl, _, _, _, _, _, _, _, _, _, _, _, _, _, _, rfl, s7, ⟨bs.out.1, bs.out.2⟩⟩
     refine AllReadyH.cons (o := _) rfl (fun K hK => ?_) ?_
     ·skip
      go_simp
      refine hK.out _ _ (s4.trans (Ext.alloc (Ext.refl _) _)) (fun _ => ?_)
      clear hK K
      try simp only [sxA, sxB, sxC, Act.put, sxD, sxE, sxF]
      refine name_any (fun W5 hW => ?_)
      have e5 : Ext W4 W5 := by rw [hW]; exact Ext.alloc (Ext.refl _) _
      have s5 := s4.trans e5
      have box := hid (show Bx2 W5 W4.heap.size 0 0 from ⟨by rw [hW]; simp [go_sem], by rw [hW]; simp [go_sem], by rw [hW]; simp [go_sem], by rw [hW]; simp [go_sem]⟩)
      have hbb : w.heap.size ≤ W4.heap.size := Ext.size s4
      clear hW
      obtain ⟨Bb, hb_⟩ : ∃ z, W4.heap.size = z := ⟨_, rfl⟩
      rw [hb_] at box hbb ⊢
      clear hb_
      replace mts := hid (mts.out.ext e5)
      refine wpAnyH_ready (rs := [8]) (by kernel_rfl) (by simp) ?_
      refine AllReadyH.cons (o := _) rfl (fun K hK => ?_) AllReadyH.nil
      go_simp
      refine (hL.out _ _ _ mts.out).mono ?_; rintro e W6 ⟨rfl, e6⟩
      have s6 := s5.trans e6
      refine hK.out _ _ s6 (fun _ => ?_)
      clear hK K
      try simp only [sxA, sxB, sxC, Act.put, sxD, sxE, sxF]
      replace box := hid (box.out.ext e6)
      replace mts := hid (mts.out.ext e6)
      refine tkB (i := 9) (v := ?_) rfl hpan ?yl ?_
      case yl => (intro w hSw; (try dsimp only at hSw);  go_simp); with_reducible rfl
      try simp only [sxA, sxB, sxC, Act.put, sxD, sxE, sxF]
      refine tkB (i := 10) (v := ?_) rfl hpan ?yl ?_
      case yl => (intro w hSw; (try dsimp only at hSw);  go_simp); with_reducible rfl
      try simp only [sxA, sxB, sxC, Act.put, sxD, sxE, sxF]
      refine tkB (i := 11) (v := ?_) rfl hpan ?yl ?_
      case yl => (intro w hSw; (try dsimp only at hSw);  go_simp); with_reducible rfl
      try simp only [sxA, sxB, sxC, Act.put, sxD, sxE, sxF]
      refine tkB (i := 12) (v := ?_) rfl hpan ?yl ?_
      case yl => (intro w hSw; (try dsimp only at hSw);  go_simp); with_reducible rfl
      try simp only [sxA, sxB, sxC, Act.put, sxD, sxE, sxF]
      refine wpAnyH_ready (rs := [14]) (by kernel_rfl) (by simp) ?_
      refine AllReadyH.cons (o := _) rfl (fun K hK => ?_) AllReadyH.nil
      obtain ⟨z0, z1, f0, f1⟩ := box.out
      have lz := cell_lt z0; dsimp only at lz
      go_simp
      refine hK.out _ _ exE (fun _ => ?_)
      clear hK K
      try simp only [sxA, sxB, sxC, Act.put, sxD, sxE, sxF]
      refine name_any (fun W7 hW => ?_)
      have s7 : Ext w W7 := by rw [hW]; exact exE
      have bs := hid (show Bx2 W7 Bb N D by rw [hW]; exact Bx2.ext (Bx2.store ⟨z0, z1, f0, f1⟩ _ _) exE)
      clear hW z0 z1 f0 f1 lz box
      refine tkB (i := 15) (v := ?_) rfl hpan ?yl ?_
      case yl => (intro w hSw; (try dsimp only at hSw);  go_simp); with_reducible rfl
      try simp only [sxA, sxB, sxC, Act.put, sxD, sxE, sxF]
      refine tkB (i := 16) (v := ?_) rfl hpan ?yl ?_
      case yl => (intro w hSw; (try dsimp only at hSw);  go_simp); with_reducible rfl
      try simp only [sxA, sxB, sxC, Act.put, sxD, sxE, sxF]
      refine wpAnyH_done (by kernel_rfl) ?_ _
      (try simp only [sxA, sxB, sxC, Act.put, sxD, sxE, sxF])
      rw [hQ2.out]
      exact ⟨rfl, _, _, _, _, _, _, _, _, _, _, _, _, _, _, rfl, s7, ⟨bs.out.1, bs.out.2⟩⟩
     exact AllReadyH.nil
    refine AllReadyH.cons (o := _) rfl (fun K hK => ?_) ?_
    ·skip
     go_simp
     refine hK.out _ _ (s3.trans (Ext.alloc (Ext.refl _) _)) (fun _ => ?_)
     clear hK K
     try simp only [sxA, sxB, sxC, Act.put, sxD, sxE, sxF]
     refine name_any (fun W4 hW => ?_)
     have e4 : Ext W3 W4 := by rw [hW]; exact Ext.alloc (Ext.refl _) _
     have s4 := s3.trans e4
     have box := hid (show Bx2 W4 W3.heap.size 0 0 from ⟨by rw [hW]; simp [go_sem], by rw [hW]; simp [go_sem], by rw [hW]; simp [go_sem], by rw [hW]; simp [go_sem]⟩)
     have hbb : w.heap.size ≤ W3.heap.size := Ext.size s3
     have hne : W3.heap.size ≠ bo := by have := (OwnG.block own.out bo rfl).2; omega
     clear hW
     obtain ⟨Bb, hb_⟩ : ∃ z, W3.heap.size = z := ⟨_, rfl⟩
     rw [hb_] at box hbb hne ⊢
     clear hb_
     replace own := hid (OwnG.ext own.out e4)
     replace lit := hid (lit.out.ext e4)
     refine wpAnyH_ready (rs := [5]) (by kernel_rfl) (by simp) ?_
     refine AllReadyH.cons (o := _) rfl (fun K hK => ?_) AllReadyH.nil
     rw [if_pos (by rfl)]
     refine appG_wp _ _ _ rfl 68 5 40 Try.underlying22 elemMt (by decide) bo (fun i r => mtV (mtl l i) r) n _ rfl bl 0 1 1 (fun _ r => mtV ⟨mp, m1, m2, m3, m4⟩ r) rfl own.out (el5 (m := ⟨mp, m1, m2, m3, m4⟩) lit.out.1 lit.out.2.1 lit.out.2.2.1 lit.out.2.2.2.1 lit.out.2.2.2.2) (by decide) (fun _ _ _ _ => rfl) (by omega) (by decide) (by have := (OwnG.block own.out bo rfl).2; omega) (fun i r => mtV (if i < n then mtl l i else ⟨mp, m1, m2, m3, m4⟩) r) (fun i r hi _ => by rw [if_pos hi]) (fun i r hi _ => by rw [if_neg (by omega)]) ?_
     intro bx cx W5 ownx g8 at8 hbx ext8
     have s5 : Ext w W5 := ext8 w s4 hwb
     have mts := hid (ap_end hl ownx)
     replace box := hid (Bx2.gb box.out (show W4.grownBy W5 (some bo) from g8) hne)
     clear ownx g8 at8 hbx ext8 own lit
     refine hK.out _ _ s5 (fun _ => ?_)
     clear hK K
     try simp only [sxA, sxB, sxC, Act.put, sxD, sxE, sxF]
     refine wpAnyH_ready (rs := [8]) (by kernel_rfl) (by simp) ?_
     refine AllReadyH.cons (o := _) rfl (fun K hK => ?_) AllReadyH.nil
     go_simp
     refine (hL.out _ _ _ mts.out).mono ?_; rintro e W6 ⟨rfl, e6⟩
     have s6 := s5.trans e6
     refine hK.out _ _ s6 (fun _ => ?_)
     clear hK K
     try simp only [sxA, sxB, sxC, Act.put, sxD, sxE, sxF]
     replace box := hid (box.out.ext e6)
     replace mts := hid (mts.out.ext e6)
     refine tkB (i := 9) (v := ?_) rfl hpan ?yl ?_
     case yl => (intro w hSw; (try dsimp only at hSw);  go_simp); with_reducible rfl
     try simp only [sxA, sxB, sxC, Act.put, sxD, sxE, sxF]
     refine tkB (i := 10) (v := ?_) rfl hpan ?yl ?_
     case yl => (intro w hSw; (try dsimp only at hSw);  go_simp); with_reducible rfl
     try simp only [sxA, sxB, sxC, Act.put, sxD, sxE, sxF]
     refine tkB (i := 11) (v := ?_) rfl hpan ?yl ?_
     case yl => (intro w hSw; (try dsimp only at hSw);  go_simp); with_reducible rfl
     try simp only [sxA, sxB, sxC, Act.put, sxD, sxE, sxF]
     refine tkB (i := 12) (v := ?_) rfl hpan ?yl ?_
     case yl => (intro w hSw; (try dsimp only at hSw);  go_simp); with_reducible rfl
     try simp only [sxA, sxB, sxC, Act.put, sxD, sxE, sxF]
     refine wpAnyH_ready (rs := [14]) (by kernel_rfl) (by simp) ?_
     refine AllReadyH.cons (o := _) rfl (fun K hK => ?_) AllReadyH.nil
     obtain ⟨z0, z1, f0, f1⟩ := box.out
     have lz := cell_lt z0; dsimp only at lz
     go_simp
     refine hK.out _ _ exE (fun _ => ?_)
     clear hK K
     try simp only [sxA, sxB, sxC, Act.put, sxD, sxE, sxF]
     refine name_any (fun W7 hW => ?_)
     have s7 : Ext w W7 := by rw [hW]; exact exE
     have bs := hid (show Bx2 W7 Bb N D by rw [hW]; exact Bx2.ext (Bx2.store ⟨z0, z1, f0, f1⟩ _ _) exE)
     clear hW z0 z1 f0 f1 lz box
     refine tkB (i := 15) (v := ?_) rfl hpan ?yl ?_
     case yl => (intro w hSw; (try dsimp only at hSw);  go_simp); with_reducible rfl
     try simp only [sxA, sxB, sxC, Act.put, sxD, sxE, sxF]
     refine tkB (i := 16) (v := ?_) rfl hpan ?yl ?_
     case yl => (intro w hSw; (try dsimp only at hSw);  go_simp); with_reducible rfl
     try simp only [sxA, sxB, sxC, Act.put, sxD, sxE, sxF]
     refine wpAnyH_done (by kernel_rfl) ?_ _
     (try simp only [sxA, sxB, sxC, Act.put, sxD, sxE, sxF])
     rw [hQ2.out]
     exact ⟨rfl, _, _, _, _, _, _, _, _, _, _, _, _, _, _, rfl, s7, ⟨bs.out.1, bs.out.2⟩⟩
    exact AllReadyH.nil
   refine AllReadyH.cons (o := _) rfl (fun K hK => ?_) ?_
   ·skip
    go_simp
    refine hK.out _ _ (s2.trans (Ext.alloc (Ext.refl _) _)) (fun _ => ?_)
    clear hK K
    try simp only [sxA, sxB, sxC, Act.put, sxD, sxE, sxF]
    refine name_any (fun W3 hW => ?_)
    have e3 : Ext W2 W3 := by rw [hW]; exact Ext.alloc (Ext.refl _) _
    have s3 := s2.trans e3
    have box := hid (show Bx2 W3 W2.heap.size 0 0 from ⟨by rw [hW]; simp [go_sem], by rw [hW]; simp [go_sem], by rw [hW]; simp [go_sem], by rw [hW]; simp [go_sem]⟩)
    have hbb : w.heap.size ≤ W2.heap.size := Ext.size s2
    have hne : W2.heap.size ≠ bo := by have := (OwnG.block own.out bo rfl).2; omega
    clear hW
    obtain ⟨Bb, hb_⟩ : ∃ z, W2.heap.size = z := ⟨_, rfl⟩
    rw [hb_] at box hbb hne ⊢
    clear hb_
    replace own := hid (OwnG.ext own.out e3)
    refine wpAnyH_ready (rs := [4]) (by kernel_rfl) (by simp) ?_
    refine AllReadyH.cons (o := _) rfl (fun K hK => ?_) AllReadyH.nil
    go_simp
    refine hK.out _ _ (s3.trans (Ext.alloc (Ext.refl _) _)) (fun _ => ?_)
    clear hK K
    try simp only [sxA, sxB, sxC, Act.put, sxD, sxE, sxF]
    refine name_any (fun W4 hW => ?_)
    have e4 : Ext W3 W4 := by rw [hW]; exact Ext.alloc (Ext.refl _) _
    have s4 := s3.trans e4
    have lit := hid (show C5 W4 W3.heap.size mp m1 m2 m3 m4 from ⟨by rw [hW]; simp [go_sem], by rw [hW]; simp [go_sem], by rw [hW]; simp [go_sem], by rw [hW]; simp [go_sem], by rw [hW]; simp [go_sem]⟩)
    clear hW
    obtain ⟨bl, hb_⟩ : ∃ z, W3.heap.size = z := ⟨_, rfl⟩
    rw [hb_] at lit ⊢
    clear hb_
    replace own := hid (OwnG.ext own.out e4)
    replace box := hid (box.out.ext e4)
    refine wpAnyH_ready (rs := [5]) (by kernel_rfl) (by simp) ?_
    refine AllReadyH.cons (o := _) rfl (fun K hK => ?_) AllReadyH.nil
    rw [if_pos (by rfl)]
    refine appG_wp _ _ _ rfl 68 5 40 Try.underlying22 elemMt (by decide) bo (fun i r => mtV (mtl l i) r) n _ rfl bl 0 1 1 (fun _ r => mtV ⟨mp, m1, m2, m3, m4⟩ r) rfl own.out (el5 (m := ⟨mp, m1, m2, m3, m4⟩) lit.out.1 lit.out.2.1 lit.out.2.2.1 lit.out.2.2.2.1 lit.out.2.2.2.2) (by decide) (fun _ _ _ _ => rfl) (by omega) (by decide) (by have := (OwnG.block own.out bo rfl).2; omega) (fun i r => mtV (if i < n then mtl l i else ⟨mp, m1, m2, m3, m4⟩) r) (fun i r hi _ => by rw [if_pos hi]) (fun i r hi _ => by rw [if_neg (by omega)]) ?_
    intro bx cx W5 ownx g8 at8 hbx ext8
    have s5 : Ext w W5 := ext8 w s4 hwb
    have mts := hid (ap_end hl ownx)
    replace box := hid (Bx2.gb box.out (show W4.grownBy W5 (some bo) from g8) hne)
    clear ownx g8 at8 hbx ext8 own lit
    refine hK.out _ _ s5 (fun _ => ?_)
    clear hK K
    try simp only [sxA, sxB, sxC, Act.put, sxD, sxE, sxF]
    refine wpAnyH_ready (rs := [8]) (by kernel_rfl) (by simp) ?_
    refine AllReadyH.cons (o := _) rfl (fun K hK => ?_) AllReadyH.nil
    go_simp
    refine (hL.out _ _ _ mts.out).mono ?_; rintro e W6 ⟨rfl, e6⟩
    have s6 := s5.trans e6
    refine hK.out _ _ s6 (fun _ => ?_)
    clear hK K
    try simp only [sxA, sxB, sxC, Act.put, sxD, sxE, sxF]
    replace box := hid (box.out.ext e6)
    replace mts := hid (mts.out.ext e6)
    refine tkB (i := 9) (v := ?_) rfl hpan ?yl ?_
    case yl => (intro w hSw; (try dsimp only at hSw);  go_simp); with_reducible rfl
    try simp only [sxA, sxB, sxC, Act.put, sxD, sxE, sxF]
    refine tkB (i := 10) (v := ?_) rfl hpan ?yl ?_
    case yl => (intro w hSw; (try dsimp only at hSw);  go_simp); with_reducible rfl
    try simp only [sxA, sxB, sxC, Act.put, sxD, sxE, sxF]
    refine tkB (i := 11) (v := ?_) rfl hpan ?yl ?_
    case yl => (intro w hSw; (try dsimp only at hSw);  go_simp); with_reducible rfl
    try simp only [sxA, sxB, sxC, Act.put, sxD, sxE, sxF]
    refine tkB (i := 12) (v := ?_) rfl hpan ?yl ?_
    case yl => (intro w hSw; (try dsimp only at hSw);  go_simp); with_reducible rfl
    try simp only [sxA, sxB, sxC, Act.put, sxD, sxE, sxF]
    refine wpAnyH_ready (rs := [14]) (by kernel_rfl) (by simp) ?_
    refine AllReadyH.cons (o := _) rfl (fun K hK => ?_) AllReadyH.nil
    obtain ⟨z0, z1, f0, f1⟩ := box.out
    have lz := cell_lt z0; dsimp only at lz
    go_simp
    refine hK.out _ _ exE (fun _ => ?_)
    clear hK K
    try simp only [sxA, sxB, sxC, Act.put, sxD, sxE, sxF]
    refine name_any (fun W7 hW => ?_)
    have s7 : Ext w W7 := by rw [hW]; exact exE
    have bs := hid (show Bx2 W7 Bb N D by rw [hW]; exact Bx2.ext (Bx2.store ⟨z0, z1, f0, f1⟩ _ _) exE)
    clear hW z0 z1 f0 f1 lz box
    refine tkB (i := 15) (v := ?_) rfl hpan ?yl ?_
    case yl => (intro w hSw; (try dsimp only at hSw);  go_simp); with_reducible rfl
    try simp only [sxA, sxB, sxC, Act.put, sxD, sxE, sxF]
    refine tkB (i := 16) (v := ?_) rfl hpan ?yl ?_
    case yl => (intro w hSw; (try dsimp only at hSw);  go_simp); with_reducible rfl
    try simp only [sxA, sxB, sxC, Act.put, sxD, sxE, sxF]
    refine wpAnyH_done (by kernel_rfl) ?_ _
    (try simp only [sxA, sxB, sxC, Act.put, sxD, sxE, sxF])
    rw [hQ2.out]
    exact ⟨rfl, _, _, _, _, _, _, _, _, _, _, _, _, _, _, rfl, s7, ⟨bs.out.1, bs.out.2⟩⟩
   exact AllReadyH.nil
  refine AllReadyH.cons (o := _) rfl (fun K hK => ?_) ?_
  ·skip
   go_simp
   refine hK.out _ _ (s1.trans (Ext.alloc (Ext.refl _) _)) (fun _ => ?_)
   clear hK K
   try simp only [sxA, sxB, sxC, Act.put, sxD, sxE, sxF]
   refine name_any (fun W2 hW => ?_)
   have e2 : Ext W1 W2 := by rw [hW]; exact Ext.alloc (Ext.refl _) _
   have s2 := s1.trans e2
   have lit := hid (show C5 W2 W1.heap.size mp m1 m2 m3 m4 from ⟨by rw [hW]; simp [go_sem], by rw [hW]; simp [go_sem], by rw [hW]; simp [go_sem], by rw [hW]; simp [go_sem], by rw [hW]; simp [go_sem]⟩)
   clear hW
   obtain ⟨bl, hb_⟩ : ∃ z, W1.heap.size = z := ⟨_, rfl⟩
   rw [hb_] at lit ⊢
   clear hb_
   refine wpAnyH_ready (rs := [2, 13]) (by kernel_rfl) (by simp) ?_
   refine AllReadyH.cons (o := _) rfl (fun K hK => ?_) ?_
   ·skip
    rw [if_pos (by rfl)]
    refine appGF_wp _ _ _ rfl 68 5 40 Try.underlying22 elemMt (by decide) (fun i r => mtV (mtl l i) r) 0 _ rfl (fun i hi => absurd hi (by omega)) bm om n cap (fun i r => mtV (mtl l i) r) rfl (fun i hi r hr => s2.cell (hcl.out i hi r hr)) n0 (by omega) (by decide) (fun i r => mtV (mtl l i) r) (fun _ _ h _ => absurd h (by omega)) (fun i r hi _ => by rw [Nat.zero_add]) ?_
    intro cp2 W3 own e3
    have s3 := s2.trans e3
    rw [Nat.zero_add] at own
    have hwb := Ext.size s2
    obtain ⟨bo, hb_⟩ : ∃ z, W2.heap.size = z := ⟨_, rfl⟩
    rw [hb_] at own hwb ⊢
    clear hb_
    replace own := hid own
    refine hK.out _ _ s3 (fun _ => ?_)
    clear hK K
    try simp only [sxA, sxB, sxC, Act.put, sxD, sxE, sxF]
    try rw [Nat.zero_add]
    replace lit := hid (lit.out.ext e3)
    refine wpAnyH_ready (rs := [5, 13]) (by kernel_rfl) (by simp) ?_
    refine AllReadyH.cons (o := _) rfl (fun K hK => ?_) ?_
    ·skip
     rw [if_pos (by rfl)]
     refine appG_wp _ _ _ rfl 68 5 40 Try.underlying22 elemMt (by decide) bo (fun i r => mtV (mtl l i) r) n _ rfl bl 0 1 1 (fun _ r => mtV ⟨mp, m1, m2, m3, m4⟩ r) rfl own.out (el5 (m := ⟨mp, m1, m2, m3, m4⟩) lit.out.1 lit.out.2.1 lit.out.2.2.1 lit.out.2.2.2.1 lit.out.2.2.2.2) (by decide) (fun _ _ _ _ => rfl) (by omega) (by decide) (by have := (OwnG.block own.out bo rfl).2; omega) (fun i r => mtV (if i < n then mtl l i else ⟨mp, m1, m2, m3, m4⟩) r) (fun i r hi _ => by rw [if_pos hi]) (fun i r hi _ => by rw [if_neg (by omega)]) ?_
     intro bx cx W4 ownx g8 at8 hbx ext8
     have s4 : Ext w W4 := ext8 w s3 hwb
     have mts := hid (ap_end hl ownx)
     clear ownx g8 at8 hbx ext8 own lit
     refine hK.out _ _ s4 (fun _ => ?_)
     clear hK K
     try simp only [sxA, sxB, sxC, Act.put, sxD, sxE, sxF]
     refine wpAnyH_ready (rs := [8, 13]) (by kernel_rfl) (by simp) ?_
     refine AllReadyH.cons (o := _) rfl (fun K hK => ?_) ?_
     ·skip
      go_simp
      refine (hL.out _ _ _ mts.out).mono ?_; rintro e W5 ⟨rfl, e5⟩
      have s5 := s4.trans e5
      refine hK.out _ _ s5 (fun _ => ?_)
      clear hK K
      try simp only [sxA, sxB, sxC, Act.put, sxD, sxE, sxF]
      replace mts := hid (mts.out.ext e5)
      refine tkB (i := 9) (v := ?_) rfl hpan ?yl ?_
      case yl => (intro w hSw; (try dsimp only at hSw);  go_simp); with_reducible rfl
      try simp only [sxA, sxB, sxC, Act.put, sxD, sxE, sxF]
      refine tkB (i := 10) (v := ?_) rfl hpan ?yl ?_
      case yl => (intro w hSw; (try dsimp only at hSw);  go_simp); with_reducible rfl
      try simp only [sxA, sxB, sxC, Act.put, sxD, sxE, sxF]
      refine tkB (i := 11) (v := ?_) rfl hpan ?yl ?_
      case yl => (intro w hSw; (try dsimp only at hSw);  go_simp); with_reducible rfl
      try simp only [sxA, sxB, sxC, Act.put, sxD, sxE, sxF]
      refine tkB (i := 12) (v := ?_) rfl hpan ?yl ?_
      case yl => (intro w hSw; (try dsimp only at hSw);  go_simp); with_reducible rfl
      try simp only [sxA, sxB, sxC, Act.put, sxD, sxE, sxF]
      refine wpAnyH_ready (rs := [13]) (by kernel_rfl) (by simp) ?_
      refine AllReadyH.cons (o := _) rfl (fun K hK => ?_) AllReadyH.nil
      go_simp
      refine hK.out _ _ (s5.trans (Ext.alloc (Ext.refl _) _)) (fun _ => ?_)
      clear hK K
      try simp only [sxA, sxB, sxC, Act.put, sxD, sxE, sxF]
      refine name_any (fun W6 hW => ?_)
      have e6 : Ext W5 W6 := by rw [hW]; exact Ext.alloc (Ext.refl _) _
      have s6 := s5.trans e6
      have box := hid (show Bx2 W6 W5.heap.size 0 0 from ⟨by rw [hW]; simp [go_sem], by rw [hW]; simp [go_sem], by rw [hW]; simp [go_sem], by rw [hW]; simp [go_sem]⟩)
      have hbb : w.heap.size ≤ W5.heap.size := Ext.size s5
      clear hW
      obtain ⟨Bb, hb_⟩ : ∃ z, W5.heap.size = z := ⟨_, rfl⟩
      rw [hb_] at box hbb ⊢
      clear hb_
      replace mts := hid (mts.out.ext e6)
      refine wpAnyH_ready (rs := [14]) (by kernel_rfl) (by simp) ?_
      refine AllReadyH.cons (o := _) rfl (fun K hK => ?_) AllReadyH.nil
      obtain ⟨z0, z1, f0, f1⟩ := box.out
      have lz := cell_lt z0; dsimp only at lz
      go_simp
      refine hK.out _ _ exE (fun _ => ?_)
      clear hK K
      try simp only [sxA, sxB, sxC, Act.put, sxD, sxE, sxF]
      refine name_any (fun W7 hW => ?_)
      have s7 : Ext w W7 := by rw [hW]; exact exE
      have bs := hid (show Bx2 W7 Bb N D by rw [hW]; exact Bx2.ext (Bx2.store ⟨z0, z1, f0, f1⟩ _ _) exE)
      clear hW z0 z1 f0 f1 lz box
      refine tkB (i := 15) (v := ?_) rfl hpan ?yl ?_
      case yl => (intro w hSw; (try dsimp only at hSw);  go_simp); with_reducible rfl
      try simp only [sxA, sxB, sxC, Act.put, sxD, sxE, sxF]
      refine tkB (i := 16) (v := ?_) rfl hpan ?yl ?_
      case yl => (intro w hSw; (try dsimp only at hSw);  go_simp); with_reducible rfl
      try simp only [sxA, sxB, sxC, Act.put, sxD, sxE, sxF]
      refine wpAnyH_done (by kernel_rfl) ?_ _
      (try simp only [sxA, sxB, sxC, Act.put, sxD, sxE, sxF])
      rw [hQ2.out]
      exact ⟨rfl, _, _, _, _, _, _, _, _, _, _, _, _, _, _, rfl, s7, ⟨bs.out.1, bs.out.2⟩⟩
     refine AllReadyH.cons (o := _) rfl (fun K hK => ?_) ?_
     ·skip
      go_simp
      refine hK.out _ _ (s4.trans (Ext.alloc (Ext.refl _) _)) (fun _ => ?_)
      clear hK K
      try simp only [sxA, sxB, sxC, Act.put, sxD, sxE, sxF]
      refine name_any (fun W5 hW => ?_)
      have e5 : Ext W4 W5 := by rw [hW]; exact Ext.alloc (Ext.refl _) _
      have s5 := s4.trans e5
      have box := hid (show Bx2 W5 W4.heap.size 0 0 from ⟨by rw [hW]; simp [go_sem], by rw [hW]; simp [go_sem], by rw [hW]; simp [go_sem], by rw [hW]; simp [go_sem]⟩)
      have hbb : w.heap.size ≤ W4.heap.size := Ext.size s4
      clear hW
      obtain ⟨Bb, hb_⟩ : ∃ z, W4.heap.size = z := ⟨_, rfl⟩
      rw [hb_] at box hbb ⊢
      clear hb_
      replace mts := hid (mts.out.ext e5)
      refine wpAnyH_ready (rs := [8]) (by kernel_rfl) (by simp) ?_
      refine AllReadyH.cons (o := _) rfl (fun K hK => ?_) AllReadyH.nil
      go_simp
      refine (hL.out _ _ _ mts.out).mono ?_; rintro e W6 ⟨rfl, e6⟩
      have s6 := s5.trans e6
      refine hK.out _ _ s6 (fun _ => ?_)
      clear hK K
      try simp only [sxA, sxB, sxC, Act.put, sxD, sxE, sxF]
      replace box := hid (box.out.ext e6)
      replace mts := hid (mts.out.ext e6)
      refine tkB (i := 9) (v := ?_) rfl hpan ?yl ?_
      case yl => (intro w hSw; (try dsimp only at hSw);  go_simp); with_reducible rfl
      try simp only [sxA, sxB, sxC, Act.put, sxD, sxE, sxF]
      refine tkB (i := 10) (v := ?_) rfl hpan ?yl ?_
      case yl => (intro w hSw; (try dsimp only at hSw);  go_simp); with_reducible rfl
      try simp only [sxA, sxB, sxC, Act.put, sxD, sxE, sxF]
      refine tkB (i := 11) (v := ?_) rfl hpan ?yl ?_
      case yl => (intro w hSw; (try dsimp only at hSw);  go_simp); with_reducible rfl
      try simp only [sxA, sxB, sxC, Act.put, sxD, sxE, sxF]
      refine tkB (i := 12) (v := ?_) rfl hpan ?yl ?_
      case yl => (intro w hSw; (try dsimp only at hSw);  go_simp); with_reducible rfl
      try simp only [sxA, sxB, sxC, Act.put, sxD, sxE, sxF]
      refine wpAnyH_ready (rs := [14]) (by kernel_rfl) (by simp) ?_
      refine AllReadyH.cons (o := _) rfl (fun K hK => ?_) AllReadyH.nil
      obtain ⟨z0, z1, f0, f1⟩ := box.out
      have lz := cell_lt z0; dsimp only at lz
      go_simp
      refine hK.out _ _ exE (fun _ => ?_)
      clear hK K
      try simp only [sxA, sxB, sxC, Act.put, sxD, sxE, sxF]
      refine name_any (fun W7 hW => ?_)
      have s7 : Ext w W7 := by rw [hW]; exact exE
      have bs := hid (show Bx2 W7 Bb N D by rw [hW]; exact Bx2.ext (Bx2.store ⟨z0, z1, f0, f1⟩ _ _) exE)
      clear hW z0 z1 f0 f1 lz box
      refine tkB (i := 15) (v := ?_) rfl hpan ?yl ?_
      case yl => (intro w hSw; (try dsimp only at hSw);  go_simp); with_reducible rfl
      try simp only [sxA, sxB, sxC, Act.put, sxD, sxE, sxF]
      refine tkB (i := 16) (v := ?_) rfl hpan ?yl ?_
      case yl => (intro w hSw; (try dsimp only at hSw);  go_simp); with_reducible rfl
      try simp only [sxA, sxB, sxC, Act.put, sxD, sxE, sxF]
      refine wpAnyH_done (by kernel_rfl) ?_ _
      (try simp only [sxA, sxB, sxC, Act.put, sxD, sxE, sxF])
      rw [hQ2.out]
      exact ⟨rfl, _, _, _, _, _, _, _, _, _, _, _, _, _, _, rfl, s7, ⟨bs.out.1, bs.out.2⟩⟩
     exact AllReadyH.nil
    refine AllReadyH.cons (o := _) rfl (fun K hK => ?_) ?_
    ·skip
     go_simp
     refine hK.out _ _ (s3.trans (Ext.alloc (Ext.refl _) _)) (fun _ => ?_)
     clear hK K
     try simp only [sxA, sxB, sxC, Act.put, sxD, sxE, sxF]
     refine name_any (fun W4 hW => ?_)
     have e4 : Ext W3 W4 := by rw [hW]; exact Ext.alloc (Ext.refl _) _
     have s4 := s3.trans e4
     have box := hid (show Bx2 W4 W3.heap.size 0 0 from ⟨by rw [hW]; simp [go_sem], by rw [hW]; simp [go_sem], by rw [hW]; simp [go_sem], by rw [hW]; simp [go_sem]⟩)
     have hbb : w.heap.size ≤ W3.heap.size := Ext.size s3
     have hne : W3.heap.size ≠ bo := by have := (OwnG.block own.out bo rfl).2; omega
     clear hW
     obtain ⟨Bb, hb_⟩ : ∃ z, W3.heap.size = z := ⟨_, rfl⟩
     rw [hb_] at box hbb hne ⊢
     clear hb_
     replace lit := hid (lit.out.ext e4)
     replace own := hid (OwnG.ext own.out e4)
     refine wpAnyH_ready (rs := [5]) (by kernel_rfl) (by simp) ?_
     refine AllReadyH.cons (o := _) rfl (fun K hK => ?_) AllReadyH.nil
     rw [if_pos (by rfl)]
     refine appG_wp _ _ _ rfl 68 5 40 Try.underlying22 elemMt (by decide) bo (fun i r => mtV (mtl l i) r) n _ rfl bl 0 1 1 (fun _ r => mtV ⟨mp, m1, m2, m3, m4⟩ r) rfl own.out (el5 (m := ⟨mp, m1, m2, m3, m4⟩) lit.out.1 lit.out.2.1 lit.out.2.2.1 lit.out.2.2.2.1 lit.out.2.2.2.2) (by decide) (fun _ _ _ _ => rfl) (by omega) (by decide) (by have := (OwnG.block own.out bo rfl).2; omega) (fun i r => mtV (if i < n then mtl l i else ⟨mp, m1, m2, m3, m4⟩) r) (fun i r hi _ => by rw [if_pos hi]) (fun i r hi _ => by rw [if_neg (by omega)]) ?_
     intro bx cx W5 ownx g8 at8 hbx ext8
     have s5 : Ext w W5 := ext8 w s4 hwb
     have mts := hid (ap_end hl ownx)
     replace box := hid (Bx2.gb box.out (show W4.grownBy W5 (some bo) from g8) hne)
     clear ownx g8 at8 hbx ext8 own lit
     refine hK.out _ _ s5 (fun _ => ?_)
     clear hK K
     try simp only [sxA, sxB, sxC, Act.put, sxD, sxE, sxF]
     refine wpAnyH_ready (rs := [8]) (by kernel_rfl) (by simp) ?_
     refine AllReadyH.cons (o := _) rfl (fun K hK => ?_) AllReadyH.nil
     go_simp
     refine (hL.out _ _ _ mts.out).mono ?_; rintro e W6 ⟨rfl, e6⟩
     have s6 := s5.trans e6
     refine hK.out _ _ s6 (fun _ => ?_)
     clear hK K
     try simp only [sxA, sxB, sxC, Act.put, sxD, sxE, sxF]
     replace box := hid (box.out.ext e6)
     replace mts := hid (mts.out.ext e6)
     refine tkB (i := 9) (v := ?_) rfl hpan ?yl ?_
     case yl => (intro w hSw; (try dsimp only at hSw);  go_simp); with_reducible rfl
     try simp only [sxA, sxB, sxC, Act.put, sxD, sxE, sxF]
     refine tkB (i := 10) (v := ?_) rfl hpan ?yl ?_
     case yl => (intro w hSw; (try dsimp only at hSw);  go_simp); with_reducible rfl
     try simp only [sxA, sxB, sxC, Act.put, sxD, sxE, sxF]
     refine tkB (i := 11) (v := ?_) rfl hpan ?yl ?_
     case yl => (intro w hSw; (try dsimp only at hSw);  go_simp); with_reducible rfl
     try simp only [sxA, sxB, sxC, Act.put, sxD, sxE, sxF]
     refine tkB (i := 12) (v := ?_) rfl hpan ?yl ?_
     case yl => (intro w hSw; (try dsimp only at hSw);  go_simp); with_reducible rfl
     try simp only [sxA, sxB, sxC, Act.put, sxD, sxE, sxF]
     refine wpAnyH_ready (rs := [14]) (by kernel_rfl) (by simp) ?_
     refine AllReadyH.cons (o := _) rfl (fun K hK => ?_) AllReadyH.nil
     obtain ⟨z0, z1, f0, f1⟩ := box.out
     have lz := cell_lt z0; dsimp only at lz
     go_simp
     refine hK.out _ _ exE (fun _ => ?_)
     clear hK K
     try simp only [sxA, sxB, sxC, Act.put, sxD, sxE, sxF]
     refine name_any (fun W7 hW => ?_)
     have s7 : Ext w W7 := by rw [hW]; exact exE
     have bs := hid (show Bx2 W7 Bb N D by rw [hW]; exact Bx2.ext (Bx2.store ⟨z0, z1, f0, f1⟩ _ _) exE)
     clear hW z0 z1 f0 f1 lz box
     refine tkB (i := 15) (v := ?_) rfl hpan ?yl ?_
     case yl => (intro w hSw; (try dsimp only at hSw);  go_simp); with_reducible rfl
     try simp only [sxA, sxB, sxC, Act.put, sxD, sxE, sxF]
     refine tkB (i := 16) (v := ?_) rfl hpan ?yl ?_
     case yl => (intro w hSw; (try dsimp only at hSw);  go_simp); with_reducible rfl
     try simp only [sxA, sxB, sxC, Act.put, sxD, sxE, sxF]
     refine wpAnyH_done (by kernel_rfl) ?_ _
     (try simp only [sxA, sxB, sxC, Act.put, sxD, sxE, sxF])
     rw [hQ2.out]
     exact ⟨rfl, _, _, _, _, _, _, _, _, _, _, _, _, _, _, rfl, s7, ⟨bs.out.1, bs.out.2⟩⟩
    exact AllReadyH.nil
   refine AllReadyH.cons (o := _) rfl (fun K hK => ?_) ?_
   ·skip
    go_simp
    refine hK.out _ _ (s2.trans (Ext.alloc (Ext.refl _) _)) (fun _ => ?_)
    clear hK K
    try simp only [sxA, sxB, sxC, Act.put, sxD, sxE, sxF]
    refine name_any (fun W3 hW => ?_)
    have e3 : Ext W2 W3 := by rw [hW]; exact Ext.alloc (Ext.refl _) _
    have s3 := s2.trans e3
    have box := hid (show Bx2 W3 W2.heap.size 0 0 from ⟨by rw [hW]; simp [go_sem], by rw [hW]; simp [go_sem], by rw [hW]; simp [go_sem], by rw [hW]; simp [go_sem]⟩)
    have hbb : w.heap.size ≤ W2.heap.size := Ext.size s2
    clear hW
    obtain ⟨Bb, hb_⟩ : ∃ z, W2.heap.size = z := ⟨_, rfl⟩
    rw [hb_] at box hbb ⊢
    clear hb_
    replace lit := hid (lit.out.ext e3)
    refine wpAnyH_ready (rs := [2]) (by kernel_rfl) (by simp) ?_
    refine AllReadyH.cons (o := _) rfl (fun K hK => ?_) AllReadyH.nil
    rw [if_pos (by rfl)]
    refine appGF_wp _ _ _ rfl 68 5 40 Try.underlying22 elemMt (by decide) (fun i r => mtV (mtl l i) r) 0 _ rfl (fun i hi => absurd hi (by omega)) bm om n cap (fun i r => mtV (mtl l i) r) rfl (fun i hi r hr => s3.cell (hcl.out i hi r hr)) n0 (by omega) (by decide) (fun i r => mtV (mtl l i) r) (fun _ _ h _ => absurd h (by omega)) (fun i r hi _ => by rw [Nat.zero_add]) ?_
    intro cp2 W4 own e4
    have s4 := s3.trans e4
    rw [Nat.zero_add] at own
    have hwb := Ext.size s3
    have hne : Bb ≠ W3.heap.size := by have := box.out.lt; omega
    obtain ⟨bo, hb_⟩ : ∃ z, W3.heap.size = z := ⟨_, rfl⟩
    rw [hb_] at own hwb hne ⊢
    clear hb_
    replace own := hid own
    refine hK.out _ _ s4 (fun _ => ?_)
    clear hK K
    try simp only [sxA, sxB, sxC, Act.put, sxD, sxE, sxF]
    try rw [Nat.zero_add]
    replace lit := hid (lit.out.ext e4)
    replace box := hid (box.out.ext e4)
    refine wpAnyH_ready (rs := [5]) (by kernel_rfl) (by simp) ?_
    refine AllReadyH.cons (o := _) rfl (fun K hK => ?_) AllReadyH.nil
    rw [if_pos (by rfl)]
    refine appG_wp _ _ _ rfl 68 5 40 Try.underlying22 elemMt (by decide) bo (fun i r => mtV (mtl l i) r) n _ rfl bl 0 1 1 (fun _ r => mtV ⟨mp, m1, m2, m3, m4⟩ r) rfl own.out (el5 (m := ⟨mp, m1, m2, m3, m4⟩) lit.out.1 lit.out.2.1 lit.out.2.2.1 lit.out.2.2.2.1 lit.out.2.2.2.2) (by decide) (fun _ _ _ _ => rfl) (by omega) (by decide) (by have := (OwnG.block own.out bo rfl).2; omega) (fun i r => mtV (if i < n then mtl l i else ⟨mp, m1, m2, m3, m4⟩) r) (fun i r hi _ => by rw [if_pos hi]) (fun i r hi _ => by rw [if_neg (by omega)]) ?_
    intro bx cx W5 ownx g8 at8 hbx ext8
    have s5 : Ext w W5 := ext8 w s4 hwb
    have mts := hid (ap_end hl ownx)
    replace box := hid (Bx2.gb box.out (show W4.grownBy W5 (some bo) from g8) hne)
    clear ownx g8 at8 hbx ext8 own lit
    refine hK.out _ _ s5 (fun _ => ?_)
    clear hK K
    try simp only [sxA, sxB, sxC, Act.put, sxD, sxE, sxF]
    refine wpAnyH_ready (rs := [8]) (by kernel_rfl) (by simp) ?_
    refine AllReadyH.cons (o := _) rfl (fun K hK => ?_) AllReadyH.nil
    go_simp
    refine (hL.out _ _ _ mts.out).mono ?_; rintro e W6 ⟨rfl, e6⟩
    have s6 := s5.trans e6
    refine hK.out _ _ s6 (fun _ => ?_)
    clear hK K
    try simp only [sxA, sxB, sxC, Act.put, sxD, sxE, sxF]
    replace box := hid (box.out.ext e6)
    replace mts := hid (mts.out.ext e6)
    refine tkB (i := 9) (v := ?_) rfl hpan ?yl ?_
    case yl => (intro w hSw; (try dsimp only at hSw);  go_simp); with_reducible rfl
    try simp only [sxA, sxB, sxC, Act.put, sxD, sxE, sxF]
    refine tkB (i := 10) (v := ?_) rfl hpan ?yl ?_
    case yl => (intro w hSw; (try dsimp only at hSw);  go_simp); with_reducible rfl
    try simp only [sxA, sxB, sxC, Act.put, sxD, sxE, sxF]
    refine tkB (i := 11) (v := ?_) rfl hpan ?yl ?_
    case yl => (intro w hSw; (try dsimp only at hSw);  go_simp); with_reducible rfl
    try simp only [sxA, sxB, sxC, Act.put, sxD, sxE, sxF]
    refine tkB (i := 12) (v := ?_) rfl hpan ?yl ?_
    case yl => (intro w hSw; (try dsimp only at hSw);  go_simp); with_reducible rfl
    try simp only [sxA, sxB, sxC, Act.put, sxD, sxE, sxF]
    refine wpAnyH_ready (rs := [14]) (by kernel_rfl) (by simp) ?_
    refine AllReadyH.cons (o := _) rfl (fun K hK => ?_) AllReadyH.nil
    obtain ⟨z0, z1, f0, f1⟩ := box.out
    have lz := cell_lt z0; dsimp only at lz
    go_simp
    refine hK.out _ _ exE (fun _ => ?_)
    clear hK K
    try simp only [sxA, sxB, sxC, Act.put, sxD, sxE, sxF]
    refine name_any (fun W7 hW => ?_)
    have s7 : Ext w W7 := by rw [hW]; exact exE
    have bs := hid (show Bx2 W7 Bb N D by rw [hW]; exact Bx2.ext (Bx2.store ⟨z0, z1, f0, f1⟩ _ _) exE)
    clear hW z0 z1 f0 f1 lz box
    refine tkB (i := 15) (v := ?_) rfl hpan ?yl ?_
    case yl => (intro w hSw; (try dsimp only at hSw);  go_simp); with_reducible rfl
    try simp only [sxA, sxB, sxC, Act.put, sxD, sxE, sxF]
    refine tkB (i := 16) (v := ?_) rfl hpan ?yl ?_
    case yl => (intro w hSw; (try dsimp only at hSw);  go_simp); with_reducible rfl
    try simp only [sxA, sxB, sxC, Act.put, sxD, sxE, sxF]
    refine wpAnyH_done (by kernel_rfl) ?_ _
    (try simp only [sxA, sxB, sxC, Act.put, sxD, sxE, sxF])
    rw [hQ2.out]
    exact ⟨rfl, _, _, _, _, _, _, _, _, _, _, _, _, _, _, rfl, s7, ⟨bs.out.1, bs.out.2⟩⟩
   exact AllReadyH.nil
  refine AllReadyH.cons (o := _) rfl (fun K hK => ?_) ?_
  ·skip
   go_simp
   refine hK.out _ _ (s1.trans (Ext.alloc (Ext.refl _) _)) (fun _ => ?_)
   clear hK K
   try simp only [sxA, sxB, sxC, Act.put, sxD, sxE, sxF]
   refine name_any (fun W2 hW => ?_)
   have e2 : Ext W1 W2 := by rw [hW]; exact Ext.alloc (Ext.refl _) _
   have s2 := s1.trans e2
   have box := hid (show Bx2 W2 W1.heap.size 0 0 from ⟨by rw [hW]; simp [go_sem], by rw [hW]; simp [go_sem], by rw [hW]; simp [go_sem], by rw [hW]; simp [go_sem]⟩)
   have hbb : w.heap.size ≤ W1.heap.size := Ext.size s1
   clear hW
   obtain ⟨Bb, hb_⟩ : ∃ z, W1.heap.size = z := ⟨_, rfl⟩
   rw [hb_] at box hbb ⊢
   clear hb_
   refine wpAnyH_ready (rs := [2, 4]) (by kernel_rfl) (by simp) ?_
   refine AllReadyH.cons (o := _) rfl (fun K hK => ?_) ?_
   ·skip
    rw [if_pos (by rfl)]
    refine appGF_wp _ _ _ rfl 68 5 40 Try.underlying22 elemMt (by decide) (fun i r => mtV (mtl l i) r) 0 _ rfl (fun i hi => absurd hi (by omega)) bm om n cap (fun i r => mtV (mtl l i) r) rfl (fun i hi r hr => s2.cell (hcl.out i hi r hr)) n0 (by omega) (by decide) (fun i r => mtV (mtl l i) r) (fun _ _ h _ => absurd h (by omega)) (fun i r hi _ => by rw [Nat.zero_add]) ?_
    intro cp2 W3 own e3
    have s3 := s2.trans e3
    rw [Nat.zero_add] at own
    have hwb := Ext.size s2
    have hne : Bb ≠ W2.heap.size := by have := box.out.lt; omega
    obtain ⟨bo, hb_⟩ : ∃ z, W2.heap.size = z := ⟨_, rfl⟩
    rw [hb_] at own hwb hne ⊢
    clear hb_
    replace own := hid own
    refine hK.out _ _ s3 (fun _ => ?_)
    clear hK K
    try simp only [sxA, sxB, sxC, Act.put, sxD, sxE, sxF]
    try rw [Nat.zero_add]
    replace box := hid (box.out.ext e3)
    refine wpAnyH_ready (rs := [4]) (by kernel_rfl) (by simp) ?_
    refine AllReadyH.cons (o := _) rfl (fun K hK => ?_) AllReadyH.nil
    go_simp
    refine hK.out _ _ (s3.trans (Ext.alloc (Ext.refl _) _)) (fun _ => ?_)
    clear hK K
    try simp only [sxA, sxB, sxC, Act.put, sxD, sxE, sxF]
    refine name_any (fun W4 hW => ?_)
    have e4 : Ext W3 W4 := by rw [hW]; exact Ext.alloc (Ext.refl _) _
    have s4 := s3.trans e4
    have lit := hid (show C5 W4 W3.heap.size mp m1 m2 m3 m4 from ⟨by rw [hW]; simp [go_sem], by rw [hW]; simp [go_sem], by rw [hW]; simp [go_sem], by rw [hW]; simp [go_sem], by rw [hW]; simp [go_sem]⟩)
    clear hW
    obtain ⟨bl, hb_⟩ : ∃ z, W3.heap.size = z := ⟨_, rfl⟩
    rw [hb_] at lit ⊢
    clear hb_
    replace box := hid (box.out.ext e4)
    replace own := hid (OwnG.ext own.out e4)
    refine wpAnyH_ready (rs := [5]) (by kernel_rfl) (by simp) ?_
    refine AllReadyH.cons (o := _) rfl (fun K hK => ?_) AllReadyH.nil
    rw [if_pos (by rfl)]
    refine appG_wp _ _ _ rfl 68 5 40 Try.underlying22 elemMt (by decide) bo (fun i r => mtV (mtl l i) r) n _ rfl bl 0 1 1 (fun _ r => mtV ⟨mp, m1, m2, m3, m4⟩ r) rfl own.out (el5 (m := ⟨mp, m1, m2, m3, m4⟩) lit.out.1 lit.out.2.1 lit.out.2.2.1 lit.out.2.2.2.1 lit.out.2.2.2.2) (by decide) (fun _ _ _ _ => rfl) (by omega) (by decide) (by have := (OwnG.block own.out bo rfl).2; omega) (fun i r => mtV (if i < n then mtl l i else ⟨mp, m1, m2, m3, m4⟩) r) (fun i r hi _ => by rw [if_pos hi]) (fun i r hi _ => by rw [if_neg (by omega)]) ?_
    intro bx cx W5 ownx g8 at8 hbx ext8
    have s5 : Ext w W5 := ext8 w s4 hwb
    have mts := hid (ap_end hl ownx)
    replace box := hid (Bx2.gb box.out (show W4.grownBy W5 (some bo) from g8) hne)
    clear ownx g8 at8 hbx ext8 own lit
    refine hK.out _ _ s5 (fun _ => ?_)
    clear hK K
    try simp only [sxA, sxB, sxC, Act.put, sxD, sxE, sxF]
    refine wpAnyH_ready (rs := [8]) (by kernel_rfl) (by simp) ?_
    refine AllReadyH.cons (o := _) rfl (fun K hK => ?_) AllReadyH.nil
    go_simp
    refine (hL.out _ _ _ mts.out).mono ?_; rintro e W6 ⟨rfl, e6⟩
    have s6 := s5.trans e6
    refine hK.out _ _ s6 (fun _ => ?_)
    clear hK K
    try simp only [sxA, sxB, sxC, Act.put, sxD, sxE, sxF]
    replace box := hid (box.out.ext e6)
    replace mts := hid (mts.out.ext e6)
    refine tkB (i := 9) (v := ?_) rfl hpan ?yl ?_
    case yl => (intro w hSw; (try dsimp only at hSw);  go_simp); with_reducible rfl
    try simp only [sxA, sxB, sxC, Act.put, sxD, sxE, sxF]
    refine tkB (i := 10) (v := ?_) rfl hpan ?yl ?_
    case yl => (intro w hSw; (try dsimp only at hSw);  go_simp); with_reducible rfl
    try simp only [sxA, sxB, sxC, Act.put, sxD, sxE, sxF]
    refine tkB (i := 11) (v := ?_) rfl hpan ?yl ?_
    case yl => (intro w hSw; (try dsimp only at hSw);  go_simp); with_reducible rfl
    try simp only [sxA, sxB, sxC, Act.put, sxD, sxE, sxF]
    refine tkB (i := 12) (v := ?_) rfl hpan ?yl ?_
    case yl => (intro w hSw; (try dsimp only at hSw);  go_simp); with_reducible rfl
    try simp only [sxA, sxB, sxC, Act.put, sxD, sxE, sxF]
    refine wpAnyH_ready (rs := [14]) (by kernel_rfl) (by simp) ?_
    refine AllReadyH.cons (o := _) rfl (fun K hK => ?_) AllReadyH.nil
    obtain ⟨z0, z1, f0, f1⟩ := box.out
    have lz := cell_lt z0; dsimp only at lz
    go_simp
    refine hK.out _ _ exE (fun _ => ?_)
    clear hK K
    try simp only [sxA, sxB, sxC, Act.put, sxD, sxE, sxF]
    refine name_any (fun W7 hW => ?_)
    have s7 : Ext w W7 := by rw [hW]; exact exE
    have bs := hid (show Bx2 W7 Bb N D by rw [hW]; exact Bx2.ext (Bx2.store ⟨z0, z1, f0, f1⟩ _ _) exE)
    clear hW z0 z1 f0 f1 lz box
    refine tkB (i := 15) (v := ?_) rfl hpan ?yl ?_
    case yl => (intro w hSw; (try dsimp only at hSw);  go_simp); with_reducible rfl
    try simp only [sxA, sxB, sxC, Act.put, sxD, sxE, sxF]
    refine tkB (i := 16) (v := ?_) rfl hpan ?yl ?_
    case yl => (intro w hSw; (try dsimp only at hSw);  go_simp); with_reducible rfl
    try simp only [sxA, sxB, sxC, Act.put, sxD, sxE, sxF]
    refine wpAnyH_done (by kernel_rfl) ?_ _
    (try simp only [sxA, sxB, sxC, Act.put, sxD, sxE, sxF])
    rw [hQ2.out]
    exact ⟨rfl, _, _, _, _, _, _, _, _, _, _, _, _, _, _, rfl, s7, ⟨bs.out.1, bs.out.2⟩⟩
   refine AllReadyH.cons (o := _) rfl (fun K hK => ?_) ?_
   ·skip
    go_simp
    refine hK.out _ _ (s2.trans (Ext.alloc (Ext.refl _) _)) (fun _ => ?_)
    clear hK K
    try simp only [sxA, sxB, sxC, Act.put, sxD, sxE, sxF]
    refine name_any (fun W3 hW => ?_)
    have e3 : Ext W2 W3 := by rw [hW]; exact Ext.alloc (Ext.refl _) _
    have s3 := s2.trans e3
    have lit := hid (show C5 W3 W2.heap.size mp m1 m2 m3 m4 from ⟨by rw [hW]; simp [go_sem], by rw [hW]; simp [go_sem], by rw [hW]; simp [go_sem], by rw [hW]; simp [go_sem], by rw [hW]; simp [go_sem]⟩)
    clear hW
    obtain ⟨bl, hb_⟩ : ∃ z, W2.heap.size = z := ⟨_, rfl⟩
    rw [hb_] at lit ⊢
    clear hb_
    replace box := hid (box.out.ext e3)
    refine wpAnyH_ready (rs := [2]) (by kernel_rfl) (by simp) ?_
    refine AllReadyH.cons (o := _) rfl (fun K hK => ?_) AllReadyH.nil
    rw [if_pos (by rfl)]
    refine appGF_wp _ _ _ rfl 68 5 40 Try.underlying22 elemMt (by decide) (fun i r => mtV (mtl l i) r) 0 _ rfl (fun i hi => absurd hi (by omega)) bm om n cap (fun i r => mtV (mtl l i) r) rfl (fun i hi r hr => s3.cell (hcl.out i hi r hr)) n0 (by omega) (by decide) (fun i r => mtV (mtl l i) r) (fun _ _ h _ => absurd h (by omega)) (fun i r hi _ => by rw [Nat.zero_add]) ?_
    intro cp2 W4 own e4
    have s4 := s3.trans e4
    rw [Nat.zero_add] at own
    have hwb := Ext.size s3
    have hne : Bb ≠ W3.heap.size := by have := box.out.lt; omega
    obtain ⟨bo, hb_⟩ : ∃ z, W3.heap.size = z := ⟨_, rfl⟩
    rw [hb_] at own hwb hne ⊢
    clear hb_
    replace own := hid own
    refine hK.out _ _ s4 (fun _ => ?_)
    clear hK K
    try simp only [sxA, sxB, sxC, Act.put, sxD, sxE, sxF]
    try rw [Nat.zero_add]
    replace lit := hid (lit.out.ext e4)
    replace box := hid (box.out.ext e4)
    refine wpAnyH_ready (rs := [5]) (by kernel_rfl) (by simp) ?_
    refine AllReadyH.cons (o := _) rfl (fun K hK => ?_) AllReadyH.nil
    rw [if_pos (by rfl)]
    refine appG_wp _ _ _ rfl 68 5 40 Try.underlying22 elemMt (by decide) bo (fun i r => mtV (mtl l i) r) n _ rfl bl 0 1 1 (fun _ r => mtV ⟨mp, m1, m2, m3, m4⟩ r) rfl own.out (el5 (m := ⟨mp, m1, m2, m3, m4⟩) lit.out.1 lit.out.2.1 lit.out.2.2.1 lit.out.2.2.2.1 lit.out.2.2.2.2) (by decide) (fun _ _ _ _ => rfl) (by omega) (by decide) (by have := (OwnG.block own.out bo rfl).2; omega) (fun i r => mtV (if i < n then mtl l i else ⟨mp, m1, m2, m3, m4⟩) r) (fun i r hi _ => by rw [if_pos hi]) (fun i r hi _ => by rw [if_neg (by omega)]) ?_
    intro bx cx W5 ownx g8 at8 hbx ext8
    have s5 : Ext w W5 := ext8 w s4 hwb
    have mts := hid (ap_end hl ownx)
    replace box := hid (Bx2.gb box.out (show W4.grownBy W5 (some bo) from g8) hne)
    clear ownx g8 at8 hbx ext8 own lit
    refine hK.out _ _ s5 (fun _ => ?_)
    clear hK K
    try simp only [sxA, sxB, sxC, Act.put, sxD, sxE, sxF]
    refine wpAnyH_ready (rs := [8]) (by kernel_rfl) (by simp) ?_
    refine AllReadyH.cons (o := _) rfl (fun K hK => ?_) AllReadyH.nil
    go_simp
    refine (hL.out _ _ _ mts.out).mono ?_; rintro e W6 ⟨rfl, e6⟩
    have s6 := s5.trans e6
    refine hK.out _ _ s6 (fun _ => ?_)
    clear hK K
    try simp only [sxA, sxB, sxC, Act.put, sxD, sxE, sxF]
    replace box := hid (box.out.ext e6)
    replace mts := hid (mts.out.ext e6)
    refine tkB (i := 9) (v := ?_) rfl hpan ?yl ?_
    case yl => (intro w hSw; (try dsimp only at hSw);  go_simp); with_reducible rfl
    try simp only [sxA, sxB, sxC, Act.put, sxD, sxE, sxF]
    refine tkB (i := 10) (v := ?_) rfl hpan ?yl ?_
    case yl => (intro w hSw; (try dsimp only at hSw);  go_simp); with_reducible rfl
    try simp only [sxA, sxB, sxC, Act.put, sxD, sxE, sxF]
    refine tkB (i := 11) (v := ?_) rfl hpan ?yl ?_
    case yl => (intro w hSw; (try dsimp only at hSw);  go_simp); with_reducible rfl
    try simp only [sxA, sxB, sxC, Act.put, sxD, sxE, sxF]
    refine tkB (i := 12) (v := ?_) rfl hpan ?yl ?_
    case yl => (intro w hSw; (try dsimp only at hSw);  go_simp); with_reducible rfl
    try simp only [sxA, sxB, sxC, Act.put, sxD, sxE, sxF]
    refine wpAnyH_ready (rs := [14]) (by kernel_rfl) (by simp) ?_
    refine AllReadyH.cons (o := _) rfl (fun K hK => ?_) AllReadyH.nil
    obtain ⟨z0, z1, f0, f1⟩ := box.out
    have lz := cell_lt z0; dsimp only at lz
    go_simp
    refine hK.out _ _ exE (fun _ => ?_)
    clear hK K
    try simp only [sxA, sxB, sxC, Act.put, sxD, sxE, sxF]
    refine name_any (fun W7 hW => ?_)
    have s7 : Ext w W7 := by rw [hW]; exact exE
    have bs := hid (show Bx2 W7 Bb N D by rw [hW]; exact Bx2.ext (Bx2.store ⟨z0, z1, f0, f1⟩ _ _) exE)
    clear hW z0 z1 f0 f1 lz box
    refine tkB (i := 15) (v := ?_) rfl hpan ?yl ?_
    case yl => (intro w hSw; (try dsimp only at hSw);  go_simp); with_reducible rfl
    try simp only [sxA, sxB, sxC, Act.put, sxD, sxE, sxF]
    refine tkB (i := 16) (v := ?_) rfl hpan ?yl ?_
    case yl => (intro w hSw; (try dsimp only at hSw);  go_simp); with_reducible rfl
    try simp only [sxA, sxB, sxC, Act.put, sxD, sxE, sxF]
    refine wpAnyH_done (by kernel_rfl) ?_ _
    (try simp only [sxA, sxB, sxC, Act.put, sxD, sxE, sxF])
    rw [hQ2.out]
    exact ⟨rfl, _, _, _, _, _, _, _, _, _, _, _, _, _, _, rfl, s7, ⟨bs.out.1, bs.out.2⟩⟩
   exact AllReadyH.nil
  exact AllReadyH.nil
 refine AllReadyH.cons (o := _) rfl (fun K hK => ?_) ?_
 ·skip
  go_simp
  refine hK.out _ _ (s0.trans (Ext.alloc (Ext.refl _) _)) (fun _ => ?_)
  clear hK K
  try simp only [sxA, sxB, sxC, Act.put, sxD, sxE, sxF]
  refine name_any (fun W1 hW => ?_)
  have e1 : Ext W0 W1 := by rw [hW]; exact Ext.alloc (Ext.refl _) _
  have s1 := s0.trans e1
  have lit := hid (show C5 W1 W0.heap.size mp m1 m2 m3 m4 from ⟨by rw [hW]; simp [go_sem], by rw [hW]; simp [go_sem], by rw [hW]; simp [go_sem], by rw [hW]; simp [go_sem], by rw [hW]; simp [go_sem]⟩)
  clear hW
  obtain ⟨bl, hb_⟩ : ∃ z, W0.heap.size = z := ⟨_, rfl⟩
  rw [hb_] at lit ⊢
  clear hb_
  refine wpAnyH_ready (rs := [0, 13]) (by kernel_rfl) (by simp) ?_
  refine AllReadyH.cons (o := _) rfl (fun K hK => ?_) ?_
  ·skip
   go_simp
   refine hK.out _ _ (s1.trans (Ext.alloc (Ext.refl _) _)) (fun _ => ?_)
   clear hK K
   try simp only [sxA, sxB, sxC, Act.put, sxD, sxE, sxF]
   refine name_any (fun W2 hW => ?_)
   have e2 : Ext W1 W2 := by rw [hW]; exact Ext.alloc (Ext.refl _) _
   have s2 := s1.trans e2
   clear hW
   obtain ⟨bz, hb_⟩ : ∃ z, W1.heap.size = z := ⟨_, rfl⟩
   rw [hb_] at  ⊢
   clear hb_
   replace lit := hid (lit.out.ext e2)
   refine wpAnyH_ready (rs := [2, 13]) (by kernel_rfl) (by simp) ?_
   refine AllReadyH.cons (o := _) rfl (fun K hK => ?_) ?_
   ·skip
    rw [if_pos (by rfl)]
    refine appGF_wp _ _ _ rfl 68 5 40 Try.underlying22 elemMt (by decide) (fun i r => mtV (mtl l i) r) 0 _ rfl (fun i hi => absurd hi (by omega)) bm om n cap (fun i r => mtV (mtl l i) r) rfl (fun i hi r hr => s2.cell (hcl.out i hi r hr)) n0 (by omega) (by decide) (fun i r => mtV (mtl l i) r) (fun _ _ h _ => absurd h (by omega)) (fun i r hi _ => by rw [Nat.zero_add]) ?_
    intro cp2 W3 own e3
    have s3 := s2.trans e3
    rw [Nat.zero_add] at own
    have hwb := Ext.size s2
    obtain ⟨bo, hb_⟩ : ∃ z, W2.heap.size = z := ⟨_, rfl⟩
    rw [hb_] at own hwb ⊢
    clear hb_
    replace own := hid own
    refine hK.out _ _ s3 (fun _ => ?_)
    clear hK K
    try simp only [sxA, sxB, sxC, Act.put, sxD, sxE, sxF]
    try rw [Nat.zero_add]
    replace lit := hid (lit.out.ext e3)
    refine wpAnyH_ready (rs := [5, 13]) (by kernel_rfl) (by simp) ?_
    refine AllReadyH.cons (o := _) rfl (fun K hK => ?_) ?_
    ·skip
     rw [if_pos (by rfl)]
     refine appG_wp _ _ _ rfl 68 5 40 Try.underlying22 elemMt (by decide) bo (fun i r => mtV (mtl l i) r) n _ rfl bl 0 1 1 (fun _ r => mtV ⟨mp, m1, m2, m3, m4⟩ r) rfl own.out (el5 (m := ⟨mp, m1, m2, m3, m4⟩) lit.out.1 lit.out.2.1 lit.out.2.2.1 lit.out.2.2.2.1 lit.out.2.2.2.2) (by decide) (fun _ _ _ _ => rfl) (by omega) (by decide) (by have := (OwnG.block own.out bo rfl).2; omega) (fun i r => mtV (if i < n then mtl l i else ⟨mp, m1, m2, m3, m4⟩) r) (fun i r hi _ => by rw [if_pos hi]) (fun i r hi _ => by rw [if_neg (by omega)]) ?_
     intro bx cx W4 ownx g8 at8 hbx ext8
     have s4 : Ext w W4 := ext8 w s3 hwb
     have mts := hid (ap_end hl ownx)
     clear ownx g8 at8 hbx ext8 own lit
     refine hK.out _ _ s4 (fun _ => ?_)
     clear hK K
     try simp only [sxA, sxB, sxC, Act.put, sxD, sxE, sxF]
     refine wpAnyH_ready (rs := [8, 13]) (by kernel_rfl) (by simp) ?_
     refine AllReadyH.cons (o := _) rfl (fun K hK => ?_) ?_
     ·skip
      go_simp
      refine (hL.out _ _ _ mts.out).mono ?_; rintro e W5 ⟨rfl, e5⟩
      have s5 := s4.trans e5
      refine hK.out _ _ s5 (fun _ => ?_)
      clear hK K
      try simp only [sxA, sxB, sxC, Act.put, sxD, sxE, sxF]
      replace mts := hid (mts.out.ext e5)
      refine tkB (i := 9) (v := ?_) rfl hpan ?yl ?_
      case yl => (intro w hSw; (try dsimp only at hSw);  go_simp); with_reducible rfl
      try simp only [sxA, sxB, sxC, Act.put, sxD, sxE, sxF]
      refine tkB (i := 10) (v := ?_) rfl hpan ?yl ?_
      case yl => (intro w hSw; (try dsimp only at hSw);  go_simp); with_reducible rfl
      try simp only [sxA, sxB, sxC, Act.put, sxD, sxE, sxF]
      refine tkB (i := 11) (v := ?_) rfl hpan ?yl ?_
      case yl => (intro w hSw; (try dsimp only at hSw);  go_simp); with_reducible rfl
      try simp only [sxA, sxB, sxC, Act.put, sxD, sxE, sxF]
      refine tkB (i := 12) (v := ?_) rfl hpan ?yl ?_
      case yl => (intro w hSw; (try dsimp only at hSw);  go_simp); with_reducible rfl
      try simp only [sxA, sxB, sxC, Act.put, sxD, sxE, sxF]
      refine wpAnyH_ready (rs := [13]) (by kernel_rfl) (by simp) ?_
      refine AllReadyH.cons (o := _) rfl (fun K hK => ?_) AllReadyH.nil
      go_simp
      refine hK.out _ _ (s5.trans (Ext.alloc (Ext.refl _) _)) (fun _ => ?_)
      clear hK K
      try simp only [sxA, sxB, sxC, Act.put, sxD, sxE, sxF]
      refine name_any (fun W6 hW => ?_)
      have e6 : Ext W5 W6 := by rw [hW]; exact Ext.alloc (Ext.refl _) _
      have s6 := s5.trans e6
      have box := hid (show Bx2 W6 W5.heap.size 0 0 from ⟨by rw [hW]; simp [go_sem], by rw [hW]; simp [go_sem], by rw [hW]; simp [go_sem], by rw [hW]; simp [go_sem]⟩)
      have hbb : w.heap.size ≤ W5.heap.size := Ext.size s5
      clear hW
      obtain ⟨Bb, hb_⟩ : ∃ z, W5.heap.size = z := ⟨_, rfl⟩
      rw [hb_] at box hbb ⊢
      clear hb_
      replace mts := hid (mts.out.ext e6)
      refine wpAnyH_ready (rs := [14]) (by kernel_rfl) (by simp) ?_
      refine AllReadyH.cons (o := _) rfl (fun K hK => ?_) AllReadyH.nil
      obtain ⟨z0, z1, f0, f1⟩ := box.out
      have lz := cell_lt z0; dsimp only at lz
      go_simp
      refine hK.out _ _ exE (fun _ => ?_)
      clear hK K
      try simp only [sxA, sxB, sxC, Act.put, sxD, sxE, sxF]
      refine name_any (fun W7 hW => ?_)
      have s7 : Ext w W7 := by rw [hW]; exact exE
      have bs := hid (show Bx2 W7 Bb N D by rw [hW]; exact Bx2.ext (Bx2.store ⟨z0, z1, f0, f1⟩ _ _) exE)
      clear hW z0 z1 f0 f1 lz box
      refine tkB (i := 15) (v := ?_) rfl hpan ?yl ?_
      case yl => (intro w hSw; (try dsimp only at hSw);  go_simp); with_reducible rfl
      try simp only [sxA, sxB, sxC, Act.put, sxD, sxE, sxF]
      refine tkB (i := 16) (v := ?_) rfl hpan ?yl ?_
      case yl => (intro w hSw; (try dsimp only at hSw);  go_simp); with_reducible rfl
      try simp only [sxA, sxB, sxC, Act.put, sxD, sxE, sxF]
      refine wpAnyH_done (by kernel_rfl) ?_ _
      (try simp only [sxA, sxB, sxC, Act.put, sxD, sxE, sxF])
      rw [hQ2.out]
      exact ⟨rfl, _, _, _, _, _, _, _, _, _, _, _, _, _, _, rfl, s7, ⟨bs.out.1, bs.out.2⟩⟩
     refine AllReadyH.cons (o := _) rfl (fun K hK => ?_) ?_
     ·skip
      go_simp
      refine hK.out _ _ (s4.trans (Ext.alloc (Ext.refl _) _)) (fun _ => ?_)
      clear hK K
      try simp only [sxA, sxB, sxC, Act.put, sxD, sxE, sxF]
      refine name_any (fun W5 hW => ?_)
      have e5 : Ext W4 W5 := by rw [hW]; exact Ext.alloc (Ext.refl _) _
      have s5 := s4.trans e5
      have box := hid (show Bx2 W5 W4.heap.size 0 0 from ⟨by rw [hW]; simp [go_sem], by rw [hW]; simp [go_sem], by rw [hW]; simp [go_sem], by rw [hW]; simp [go_sem]⟩)
      have hbb : w.heap.size ≤ W4.heap.size := Ext.size s4
      clear hW
      obtain ⟨Bb, hb_⟩ : ∃ z, W4.heap.size = z := ⟨_, rfl⟩
      rw [hb_] at box hbb ⊢
      clear hb_
      replace mts := hid (mts.out.ext e5)
      refine wpAnyH_ready (rs := [8]) (by kernel_rfl) (by simp) ?_
      refine AllReadyH.cons (o := _) rfl (fun K hK => ?_) AllReadyH.nil
      go_simp
      refine (hL.out _ _ _ mts.out).mono ?_; rintro e W6 ⟨rfl, e6⟩
      have s6 := s5.trans e6
      refine hK.out _ _ s6 (fun _ => ?_)
      clear hK K
      try simp only [sxA, sxB, sxC, Act.put, sxD, sxE, sxF]
      replace box := hid (box.out.ext e6)
      replace mts := hid (mts.out.ext e6)
      refine tkB (i := 9) (v := ?_) rfl hpan ?yl ?_
      case yl => (intro w hSw; (try dsimp only at hSw);  go_simp); with_reducible rfl
      try simp only [sxA, sxB, sxC, Act.put, sxD, sxE, sxF]
      refine tkB (i := 10) (v := ?_) rfl hpan ?yl ?_
      case yl => (intro w hSw; (try dsimp only at hSw);  go_simp); with_reducible rfl
      try simp only [sxA, sxB, sxC, Act.put, sxD, sxE, sxF]
      refine tkB (i := 11) (v := ?_) rfl hpan ?yl ?_
      case yl => (intro w hSw; (try dsimp only at hSw);  go_simp); with_reducible rfl
      try simp only [sxA, sxB, sxC, Act.put, sxD, sxE, sxF]
      refine tkB (i := 12) (v := ?_) rfl hpan ?yl ?_
      case yl => (intro w hSw; (try dsimp only at hSw);  go_simp); with_reducible rfl
      try simp only [sxA, sxB, sxC, Act.put, sxD, sxE, sxF]
      refine wpAnyH_ready (rs := [14]) (by kernel_rfl) (by simp) ?_
      refine AllReadyH.cons (o := _) rfl (fun K hK => ?_) AllReadyH.nil
      obtain ⟨z0, z1, f0, f1⟩ := box.out
      have lz := cell_lt z0; dsimp only at lz
      go_simp
      refine hK.out _ _ exE (fun _ => ?_)
      clear hK K
      try simp only [sxA, sxB, sxC, Act.put, sxD, sxE, sxF]
      refine name_any (fun W7 hW => ?_)
      have s7 : Ext w W7 := by rw [hW]; exact exE
      have bs := hid (show Bx2 W7 Bb N D by rw [hW]; exact Bx2.ext (Bx2.store ⟨z0, z1, f0, f1⟩ _ _) exE)
      clear hW z0 z1 f0 f1 lz box
      refine tkB (i := 15) (v := ?_) rfl hpan ?yl ?_
      case yl => (intro w hSw; (try dsimp only at hSw);  go_simp); with_reducible rfl
      try simp only [sxA, sxB, sxC, Act.put, sxD, sxE, sxF]
      refine tkB (i := 16) (v := ?_) rfl hpan ?yl ?_
      case yl => (intro w hSw; (try dsimp only at hSw);  go_simp); with_reducible rfl
      try simp only [sxA, sxB, sxC, Act.put, sxD, sxE, sxF]
      refine wpAnyH_done (by kernel_rfl) ?_ _
      (try simp only [sxA, sxB, sxC, Act.put, sxD, sxE, sxF])
      rw [hQ2.out]
      exact ⟨rfl, _, _, _, _, _, _, _, _, _, _, _, _, _, _, rfl, s7, ⟨bs.out.1, bs.out.2⟩⟩
     exact AllReadyH.nil
    refine AllReadyH.cons (o := _) rfl (fun K hK => ?_) ?_
    ·skip
     go_simp
     refine hK.out _ _ (s3.trans (Ext.alloc (Ext.refl _) _)) (fun _ => ?_)
     clear hK K
     try simp only [sxA, sxB, sxC, Act.put, sxD, sxE, sxF]
     refine name_any (fun W4 hW => ?_)
     have e4 : Ext W3 W4 := by rw [hW]; exact Ext.alloc (Ext.refl _) _
     have s4 := s3.trans e4
     have box := hid (show Bx2 W4 W3.heap.size 0 0 from ⟨by rw [hW]; simp [go_sem], by rw [hW]; simp [go_sem], by rw [hW]; simp [go_sem], by rw [hW]; simp [go_sem]⟩)
     have hbb : w.heap.size ≤ W3.heap.size := Ext.size s3
     have hne : W3.heap.size ≠ bo := by have := (OwnG.block own.out bo rfl).2; omega
     clear hW
     obtain ⟨Bb, hb_⟩ : ∃ z, W3.heap.size = z := ⟨_, rfl⟩
     rw [hb_] at box hbb hne ⊢
     clear hb_
     replace lit := hid (lit.out.ext e4)
     replace own := hid (OwnG.ext own.out e4)
     refine wpAnyH_ready (rs := [5]) (by kernel_rfl) (by simp) ?_
     refine AllReadyH.cons (o := _) rfl (fun K hK => ?_) AllReadyH.nil
     rw [if_pos (by rfl)]
     refine appG_wp _ _ _ rfl 68 5 40 Try.underlying22 elemMt (by decide) bo (fun i r => mtV (mtl l i) r) n _ rfl bl 0 1 1 (fun _ r => mtV ⟨mp, m1, m2, m3, m4⟩ r) rfl own.out (el5 (m := ⟨mp, m1, m2, m3, m4⟩) lit.out.1 lit.out.2.1 lit.out.2.2.1 lit.out.2.2.2.1 lit.out.2.2.2.2) (by decide) (fun _ _ _ _ => rfl) (by omega) (by decide) (by have := (OwnG.block own.out bo rfl).2; omega) (fun i r => mtV (if i < n then mtl l i else ⟨mp, m1, m2, m3, m4⟩) r) (fun i r hi _ => by rw [if_pos hi]) (fun i r hi _ => by rw [if_neg (by omega)]) ?_
     intro bx cx W5 ownx g8 at8 hbx ext8
     have s5 : Ext w W5 := ext8 w s4 hwb
     have mts := hid (ap_end hl ownx)
     replace box := hid (Bx2.gb box.out (show W4.grownBy W5 (some bo) from g8) hne)
     clear ownx g8 at8 hbx ext8 own lit
     refine hK.out _ _ s5 (fun _ => ?_)
     clear hK K
     try simp only [sxA, sxB, sxC, Act.put, sxD, sxE, sxF]
     refine wpAnyH_ready (rs := [8]) (by kernel_rfl) (by simp) ?_
     refine AllReadyH.cons (o := _) rfl (fun K hK => ?_) AllReadyH.nil
     go_simp
     refine (hL.out _ _ _ mts.out).mono ?_; rintro e W6 ⟨rfl, e6⟩
     have s6 := s5.trans e6
     refine hK.out _ _ s6 (fun _ => ?_)
     clear hK K
     try simp only [sxA, sxB, sxC, Act.put, sxD, sxE, sxF]
     replace box := hid (box.out.ext e6)
     replace mts := hid (mts.out.ext e6)
     refine tkB (i := 9) (v := ?_) rfl hpan ?yl ?_
     case yl => (intro w hSw; (try dsimp only at hSw);  go_simp); with_reducible rfl
     try simp only [sxA, sxB, sxC, Act.put, sxD, sxE, sxF]
     refine tkB (i := 10) (v := ?_) rfl hpan ?yl ?_
     case yl => (intro w hSw; (try dsimp only at hSw);  go_simp); with_reducible rfl
     try simp only [sxA, sxB, sxC, Act.put, sxD, sxE, sxF]
     refine tkB (i := 11) (v := ?_) rfl hpan ?yl ?_
     case yl => (intro w hSw; (try dsimp only at hSw);  go_simp); with_reducible rfl
     try simp only [sxA, sxB, sxC, Act.put, sxD, sxE, sxF]
     refine tkB (i := 12) (v := ?_) rfl hpan ?yl ?_
     case yl => (intro w hSw; (try dsimp only at hSw);  go_simp); with_reducible rfl
     try simp only [sxA, sxB, sxC, Act.put, sxD, sxE, sxF]
     refine wpAnyH_ready (rs := [14]) (by kernel_rfl) (by simp) ?_
     refine AllReadyH.cons (o := _) rfl (fun K hK => ?_) AllReadyH.nil
     obtain ⟨z0, z1, f0, f1⟩ := box.out
     have lz := cell_lt z0; dsimp only at lz
     go_simp
     refine hK.out _ _ exE (fun _ => ?_)
     clear hK K
     try simp only [sxA, sxB, sxC, Act.put, sxD, sxE, sxF]
     refine name_any (fun W7 hW => ?_)
     have s7 : Ext w W7 := by rw [hW]; exact exE
     have bs := hid (show Bx2 W7 Bb N D by rw [hW]; exact Bx2.ext (Bx2.store ⟨z0, z1, f0, f1⟩ _ _) exE)
     clear hW z0 z1 f0 f1 lz box
     refine tkB (i := 15) (v := ?_) rfl hpan ?yl ?_
     case yl => (intro w hSw; (try dsimp only at hSw);  go_simp); with_reducible rfl
     try simp only [sxA, sxB, sxC, Act.put, sxD, sxE, sxF]
     refine tkB (i := 16) (v := ?_) rfl hpan ?yl ?_
     case yl => (intro w hSw; (try dsimp only at hSw);  go_simp); with_reducible rfl
     try simp only [sxA, sxB, sxC, Act.put, sxD, sxE, sxF]
     refine wpAnyH_done (by kernel_rfl) ?_ _
     (try simp only [sxA, sxB, sxC, Act.put, sxD, sxE, sxF])
     rw [hQ2.out]
     exact ⟨rfl, _, _, _, _, _, _, _, _, _, _, _, _, _, _, rfl, s7, ⟨bs.out.1, bs.out.2⟩⟩
    exact AllReadyH.nil
   refine AllReadyH.cons (o := _) rfl (fun K hK => ?_) ?_
   ·skip
    go_simp
    refine hK.out _ _ (s2.trans (Ext.alloc (Ext.refl _) _)) (fun _ => ?_)
    clear hK K
    try simp only [sxA, sxB, sxC, Act.put, sxD, sxE, sxF]
    refine name_any (fun W3 hW => ?_)
    have e3 : Ext W2 W3 := by rw [hW]; exact Ext.alloc (Ext.refl _) _
    have s3 := s2.trans e3
    have box := hid (show Bx2 W3 W2.heap.size 0 0 from ⟨by rw [hW]; simp [go_sem], by rw [hW]; simp [go_sem], by rw [hW]; simp [go_sem], by rw [hW]; simp [go_sem]⟩)
    have hbb : w.heap.size ≤ W2.heap.size := Ext.size s2
    clear hW
    obtain ⟨Bb, hb_⟩ : ∃ z, W2.heap.size = z := ⟨_, rfl⟩
    rw [hb_] at box hbb ⊢
    clear hb_
    replace lit := hid (lit.out.ext e3)
    refine wpAnyH_ready (rs := [2]) (by kernel_rfl) (by simp) ?_
    refine AllReadyH.cons (o := _) rfl (fun K hK => ?_) AllReadyH.nil
    rw [if_pos (by rfl)]
    refine appGF_wp _ _ _ rfl 68 5 40 Try.underlying22 elemMt (by decide) (fun i r => mtV (mtl l i) r) 0 _ rfl (fun i hi => absurd hi (by omega)) bm om n cap (fun i r => mtV (mtl l i) r) rfl (fun i hi r hr => s3.cell (hcl.out i hi r hr)) n0 (by omega) (by decide) (fun i r => mtV (mtl l i) r) (fun _ _ h _ => absurd h (by omega)) (fun i r hi _ => by rw [Nat.zero_add]) ?_
    intro cp2 W4 own e4
    have s4 := s3.trans e4
    rw [Nat.zero_add] at own
    have hwb := Ext.size s3
    have hne : Bb ≠ W3.heap.size := by have := box.out.lt; omega
    obtain ⟨bo, hb_⟩ : ∃ z, W3.heap.size = z := ⟨_, rfl⟩
    rw [hb_] at own hwb hne ⊢
    clear hb_
    replace own := hid own
    refine hK.out _ _ s4 (fun _ => ?_)
    clear hK K
    try simp only [sxA, sxB, sxC, Act.put, sxD, sxE, sxF]
    try rw [Nat.zero_add]
    replace lit := hid (lit.out.ext e4)
    replace box := hid (box.out.ext e4)
    refine wpAnyH_ready (rs := [5]) (by kernel_rfl) (by simp) ?_
    refine AllReadyH.cons (o := _) rfl (fun K hK => ?_) AllReadyH.nil
    rw [if_pos (by rfl)]
    refine appG_wp _ _ _ rfl 68 5 40 Try.underlying22 elemMt (by decide) bo (fun i r => mtV (mtl l i) r) n _ rfl bl 0 1 1 (fun _ r => mtV ⟨mp, m1, m2, m3, m4⟩ r) rfl own.out (el5 (m := ⟨mp, m1, m2, m3, m4⟩) lit.out.1 lit.out.2.1 lit.out.2.2.1 lit.out.2.2.2.1 lit.out.2.2.2.2) (by decide) (fun _ _ _ _ => rfl) (by omega) (by decide) (by have := (OwnG.block own.out bo rfl).2; omega) (fun i r => mtV (if i < n then mtl l i else ⟨mp, m1, m2, m3, m4⟩) r) (fun i r hi _ => by rw [if_pos hi]) (fun i r hi _ => by rw [if_neg (by omega)]) ?_
    intro bx cx W5 ownx g8 at8 hbx ext8
    have s5 : Ext w W5 := ext8 w s4 hwb
    have mts := hid (ap_end hl ownx)
    replace box := hid (Bx2.gb box.out (show W4.grownBy W5 (some bo) from g8) hne)
    clear ownx g8 at8 hbx ext8 own lit
    refine hK.out _ _ s5 (fun _ => ?_)
    clear hK K
    try simp only [sxA, sxB, sxC, Act.put, sxD, sxE, sxF]
    refine wpAnyH_ready (rs := [8]) (by kernel_rfl) (by simp) ?_
    refine AllReadyH.cons (o := _) rfl (fun K hK => ?_) AllReadyH.nil
    go_simp
    refine (hL.out _ _ _ mts.out).mono ?_; rintro e W6 ⟨rfl, e6⟩
    have s6 := s5.trans e6
    refine hK.out _ _ s6 (fun _ => ?_)
    clear hK K
    try simp only [sxA, sxB, sxC, Act.put, sxD, sxE, sxF]
    replace box := hid (box.out.ext e6)
    replace mts := hid (mts.out.ext e6)
    refine tkB (i := 9) (v := ?_) rfl hpan ?yl ?_
    case yl => (intro w hSw; (try dsimp only at hSw);  go_simp); with_reducible rfl
    try simp only [sxA, sxB, sxC, Act.put, sxD, sxE, sxF]
    refine tkB (i := 10) (v := ?_) rfl hpan ?yl ?_
    case yl => (intro w hSw; (try dsimp only at hSw);  go_simp); with_reducible rfl
    try simp only [sxA, sxB, sxC, Act.put, sxD, sxE, sxF]
    refine tkB (i := 11) (v := ?_) rfl hpan ?yl ?_
    case yl => (intro w hSw; (try dsimp only at hSw);  go_simp); with_reducible rfl
    try simp only [sxA, sxB, sxC, Act.put, sxD, sxE, sxF]
    refine tkB (i := 12) (v := ?_) rfl hpan ?yl ?_
    case yl => (intro w hSw; (try dsimp only at hSw);  go_simp); with_reducible rfl
    try simp only [sxA, sxB, sxC, Act.put, sxD, sxE, sxF]
    refine wpAnyH_ready (rs := [14]) (by kernel_rfl) (by simp) ?_
    refine AllReadyH.cons (o := _) rfl (fun K hK => ?_) AllReadyH.nil
    obtain ⟨z0, z1, f0, f1⟩ := box.out
    have lz := cell_lt z0; dsimp only at lz
    go_simp
    refine hK.out _ _ exE (fun _ => ?_)
    clear hK K
    try simp only [sxA, sxB, sxC, Act.put, sxD, sxE, sxF]
    refine name_any (fun W7 hW => ?_)
    have s7 : Ext w W7 := by rw [hW]; exact exE
    have bs := hid (show Bx2 W7 Bb N D by rw [hW]; exact Bx2.ext (Bx2.store ⟨z0, z1, f0, f1⟩ _ _) exE)
    clear hW z0 z1 f0 f1 lz box
    refine tkB (i := 15) (v := ?_) rfl hpan ?yl ?_
    case yl => (intro w hSw; (try dsimp only at hSw);  go_simp); with_reducible rfl
    try simp only [sxA, sxB, sxC, Act.put, sxD, sxE, sxF]
    refine tkB (i := 16) (v := ?_) rfl hpan ?yl ?_
    case yl => (intro w hSw; (try dsimp only at hSw);  go_simp); with_reducible rfl
    try simp only [sxA, sxB, sxC, Act.put, sxD, sxE, sxF]
    refine wpAnyH_done (by kernel_rfl) ?_ _
    (try simp only [sxA, sxB, sxC, Act.put, sxD, sxE, sxF])
    rw [hQ2.out]
    exact ⟨rfl, _, _, _, _, _, _, _, _, _, _, _, _, _, _, rfl, s7, ⟨bs.out.1, bs.out.2⟩⟩
   exact AllReadyH.nil
  refine AllReadyH.cons (o := _) rfl (fun K hK => ?_) ?_
  ·skip
   go_simp
   refine hK.out _ _ (s1.trans (Ext.alloc (Ext.refl _) _)) (fun _ => ?_)
   clear hK K
   try simp only [sxA, sxB, sxC, Act.put, sxD, sxE, sxF]
   refine name_any (fun W2 hW => ?_)
   have e2 : Ext W1 W2 := by rw [hW]; exact Ext.alloc (Ext.refl _) _
   have s2 := s1.trans e2
   have box := hid (show Bx2 W2 W1.heap.size 0 0 from ⟨by rw [hW]; simp [go_sem], by rw [hW]; simp [go_sem], by rw [hW]; simp [go_sem], by rw [hW]; simp [go_sem]⟩)
   have hbb : w.heap.size ≤ W1.heap.size := Ext.size s1
   clear hW
   obtain ⟨Bb, hb_⟩ : ∃ z, W1.heap.size = z := ⟨_, rfl⟩
   rw [hb_] at box hbb ⊢
   clear hb_
   replace lit := hid (lit.out.ext e2)
   refine wpAnyH_ready (rs := [0]) (by kernel_rfl) (by simp) ?_
   refine AllReadyH.cons (o := _) rfl (fun K hK => ?_) AllReadyH.nil
   go_simp
   refine hK.out _ _ (s2.trans (Ext.alloc (Ext.refl _) _)) (fun _ => ?_)
   clear hK K
   try simp only [sxA, sxB, sxC, Act.put, sxD, sxE, sxF]
   refine name_any (fun W3 hW => ?_)
   have e3 : Ext W2 W3 := by rw [hW]; exact Ext.alloc (Ext.refl _) _
   have s3 := s2.trans e3
   clear hW
   obtain ⟨bz, hb_⟩ : ∃ z, W2.heap.size = z := ⟨_, rfl⟩
   rw [hb_] at  ⊢
   clear hb_
   replace lit := hid (lit.out.ext e3)
   replace box := hid (box.out.ext e3)
   refine wpAnyH_ready (rs := [2]) (by kernel_rfl) (by simp) ?_
   refine AllReadyH.cons (o := _) rfl (fun K hK => ?_) AllReadyH.nil
   rw [if_pos (by rfl)]
   refine appGF_wp _ _ _ rfl 68 5 40 Try.underlying22 elemMt (by decide) (fun i r => mtV (mtl l i) r) 0 _ rfl (fun i hi => absurd hi (by omega)) bm om n cap (fun i r => mtV (mtl l i) r) rfl (fun i hi r hr => s3.cell (hcl.out i hi r hr)) n0 (by omega) (by decide) (fun i r => mtV (mtl l i) r) (fun _ _ h _ => absurd h (by omega)) (fun i r hi _ => by rw [Nat.zero_add]) ?_
   intro cp2 W4 own e4
   have s4 := s3.trans e4
   rw [Nat.zero_add] at own
   have hwb := Ext.size s3
   have hne : Bb ≠ W3.heap.size := by have := box.out.lt; omega
   obtain ⟨bo, hb_⟩ : ∃ z, W3.heap.size = z := ⟨_, rfl⟩
   rw [hb_] at own hwb hne ⊢
   clear hb_
   replace own := hid own
   refine hK.out _ _ s4 (fun _ => ?_)
   clear hK K
   try simp only [sxA, sxB, sxC, Act.put, sxD, sxE, sxF]
   try rw [Nat.zero_add]
   replace lit := hid (lit.out.ext e4)
   replace box := hid (box.out.ext e4)
   refine wpAnyH_ready (rs := [5]) (by kernel_rfl) (by simp) ?_
   refine AllReadyH.cons (o := _) rfl (fun K hK => ?_) AllReadyH.nil
   rw [if_pos (by rfl)]
   refine appG_wp _ _ _ rfl 68 5 40 Try.underlying22 elemMt (by decide) bo (fun i r => mtV (mtl l i) r) n _ rfl bl 0 1 1 (fun _ r => mtV ⟨mp, m1, m2, m3, m4⟩ r) rfl own.out (el5 (m := ⟨mp, m1, m2, m3, m4⟩) lit.out.1 lit.out.2.1 lit.out.2.2.1 lit.out.2.2.2.1 lit.out.2.2.2.2) (by decide) (fun _ _ _ _ => rfl) (by omega) (by decide) (by have := (OwnG.block own.out bo rfl).2; omega) (fun i r => mtV (if i < n then mtl l i else ⟨mp, m1, m2, m3, m4⟩) r) (fun i r hi _ => by rw [if_pos hi]) (fun i r hi _ => by rw [if_neg (by omega)]) ?_
   intro bx cx W5 ownx g8 at8 hbx ext8
   have s5 : Ext w W5 := ext8 w s4 hwb
   have mts := hid (ap_end hl ownx)
   replace box := hid (Bx2.gb box.out (show W4.grownBy W5 (some bo) from g8) hne)
   clear ownx g8 at8 hbx ext8 own lit
   refine hK.out _ _ s5 (fun _ => ?_)
   clear hK K
   try simp only [sxA, sxB, sxC, Act.put, sxD, sxE, sxF]
   refine wpAnyH_ready (rs := [8]) (by kernel_rfl) (by simp) ?_
   refine AllReadyH.cons (o := _) rfl (fun K hK => ?_) AllReadyH.nil
   go_simp
   refine (hL.out _ _ _ mts.out).mono ?_; rintro e W6 ⟨rfl, e6⟩
   have s6 := s5.trans e6
   refine hK.out _ _ s6 (fun _ => ?_)
   clear hK K
   try simp only [sxA, sxB, sxC, Act.put, sxD, sxE, sxF]
   replace box := hid (box.out.ext e6)
   replace mts := hid (mts.out.ext e6)
   refine tkB (i := 9) (v := ?_) rfl hpan ?yl ?_
   case yl => (intro w hSw; (try dsimp only at hSw);  go_simp); with_reducible rfl
   try simp only [sxA, sxB, sxC, Act.put, sxD, sxE, sxF]
   refine tkB (i := 10) (v := ?_) rfl hpan ?yl ?_
   case yl => (intro w hSw; (try dsimp only at hSw);  go_simp); with_reducible rfl
   try simp only [sxA, sxB, sxC, Act.put, sxD, sxE, sxF]
   refine tkB (i := 11) (v := ?_) rfl hpan ?yl ?_
   case yl => (intro w hSw; (try dsimp only at hSw);  go_simp); with_reducible rfl
   try simp only [sxA, sxB, sxC, Act.put, sxD, sxE, sxF]
   refine tkB (i := 12) (v := ?_) rfl hpan ?yl ?_
   case yl => (intro w hSw; (try dsimp only at hSw);  go_simp); with_reducible rfl
   try simp only [sxA, sxB, sxC, Act.put, sxD, sxE, sxF]
   refine wpAnyH_ready (rs := [14]) (by kernel_rfl) (by simp) ?_
   refine AllReadyH.cons (o := _) rfl (fun K hK => ?_) AllReadyH.nil
   obtain ⟨z0, z1, f0, f1⟩ := box.out
   have lz := cell_lt z0; dsimp only at lz
   go_simp
   refine hK.out _ _ exE (fun _ => ?_)
   clear hK K
   try simp only [sxA, sxB, sxC, Act.put, sxD, sxE, sxF]
   refine name_any (fun W7 hW => ?_)
   have s7 : Ext w W7 := by rw [hW]; exact exE
   have bs := hid (show Bx2 W7 Bb N D by rw [hW]; exact Bx2.ext (Bx2.store ⟨z0, z1, f0, f1⟩ _ _) exE)
   clear hW z0 z1 f0 f1 lz box
   refine tkB (i := 15) (v := ?_) rfl hpan ?yl ?_
   case yl => (intro w hSw; (try dsimp only at hSw);  go_simp); with_reducible rfl
   try simp only [sxA, sxB, sxC, Act.put, sxD, sxE, sxF]
   refine tkB (i := 16) (v := ?_) rfl hpan ?yl ?_
   case yl => (intro w hSw; (try dsimp only at hSw);  go_simp); with_reducible rfl
   try simp only [sxA, sxB, sxC, Act.put, sxD, sxE, sxF]
   refine wpAnyH_done (by kernel_rfl) ?_ _
   (try simp only [sxA, sxB, sxC, Act.put, sxD, sxE, sxF])
   rw [hQ2.out]
   exact ⟨rfl, _, _, _, _, _, _, _, _, _, _, _, _, _, _, rfl, s7, ⟨bs.out.1, bs.out.2⟩⟩
  exact AllReadyH.nil
 refine AllReadyH.cons (o := _) rfl (fun K hK => ?_) ?_
 ·skip
  go_simp
  refine hK.out _ _ (s0.trans (Ext.alloc (Ext.refl _) _)) (fun _ => ?_)
  clear hK K
  try simp only [sxA, sxB, sxC, Act.put, sxD, sxE, sxF]
  refine name_any (fun W1 hW => ?_)
  have e1 : Ext W0 W1 := by rw [hW]; exact Ext.alloc (Ext.refl _) _
  have s1 := s0.trans e1
  have box := hid (show Bx2 W1 W0.heap.size 0 0 from ⟨by rw [hW]; simp [go_sem], by rw [hW]; simp [go_sem], by rw [hW]; simp [go_sem], by rw [hW]; simp [go_sem]⟩)
  have hbb : w.heap.size ≤ W0.heap.size := Ext.size s0
  clear hW
  obtain ⟨Bb, hb_⟩ : ∃ z, W0.heap.size = z := ⟨_, rfl⟩
  rw [hb_] at box hbb ⊢
  clear hb_
  refine wpAnyH_ready (rs := [0, 4]) (by kernel_rfl) (by simp) ?_
  refine AllReadyH.cons (o := _) rfl (fun K hK => ?_) ?_
  ·skip
   go_simp
   refine hK.out _ _ (s1.trans (Ext.alloc (Ext.refl _) _)) (fun _ => ?_)
   clear hK K
   try simp only [sxA, sxB, sxC, Act.put, sxD, sxE, sxF]
   refine name_any (fun W2 hW => ?_)
   have e2 : Ext W1 W2 := by rw [hW]; exact Ext.alloc (Ext.refl _) _
   have s2 := s1.trans e2
   clear hW
   obtain ⟨bz, hb_⟩ : ∃ z, W1.heap.size = z := ⟨_, rfl⟩
   rw [hb_] at  ⊢
   clear hb_
   replace box := hid (box.out.ext e2)
   refine wpAnyH_ready (rs := [2, 4]) (by kernel_rfl) (by simp) ?_
   refine AllReadyH.cons (o := _) rfl (fun K hK => ?_) ?_
   ·skip
    rw [if_pos (by rfl)]
    refine appGF_wp _ _ _ rfl 68 5 40 Try.underlying22 elemMt (by decide) (fun i r => mtV (mtl l i) r) 0 _ rfl (fun i hi => absurd hi (by omega)) bm om n cap (fun i r => mtV (mtl l i) r) rfl (fun i hi r hr => s2.cell (hcl.out i hi r hr)) n0 (by omega) (by decide) (fun i r => mtV (mtl l i) r) (fun _ _ h _ => absurd h (by omega)) (fun i r hi _ => by rw [Nat.zero_add]) ?_
    intro cp2 W3 own e3
    have s3 := s2.trans e3
    rw [Nat.zero_add] at own
    have hwb := Ext.size s2
    have hne : Bb ≠ W2.heap.size := by have := box.out.lt; omega
    obtain ⟨bo, hb_⟩ : ∃ z, W2.heap.size = z := ⟨_, rfl⟩
    rw [hb_] at own hwb hne ⊢
    clear hb_
    replace own := hid own
    refine hK.out _ _ s3 (fun _ => ?_)
    clear hK K
    try simp only [sxA, sxB, sxC, Act.put, sxD, sxE, sxF]
    try rw [Nat.zero_add]
    replace box := hid (box.out.ext e3)
    refine wpAnyH_ready (rs := [4]) (by kernel_rfl) (by simp) ?_
    refine AllReadyH.cons (o := _) rfl (fun K hK => ?_) AllReadyH.nil
    go_simp
    refine hK.out _ _ (s3.trans (Ext.alloc (Ext.refl _) _)) (fun _ => ?_)
    clear hK K
    try simp only [sxA, sxB, sxC, Act.put, sxD, sxE, sxF]
    refine name_any (fun W4 hW => ?_)
    have e4 : Ext W3 W4 := by rw [hW]; exact Ext.alloc (Ext.refl _) _
    have s4 := s3.trans e4
    have lit := hid (show C5 W4 W3.heap.size mp m1 m2 m3 m4 from ⟨by rw [hW]; simp [go_sem], by rw [hW]; simp [go_sem], by rw [hW]; simp [go_sem], by rw [hW]; simp [go_sem], by rw [hW]; simp [go_sem]⟩)
    clear hW
    obtain ⟨bl, hb_⟩ : ∃ z, W3.heap.size = z := ⟨_, rfl⟩
    rw [hb_] at lit ⊢
    clear hb_
    replace box := hid (box.out.ext e4)
    replace own := hid (OwnG.ext own.out e4)
    refine wpAnyH_ready (rs := [5]) (by kernel_rfl) (by simp) ?_
    refine AllReadyH.cons (o := _) rfl (fun K hK => ?_) AllReadyH.nil
    rw [if_pos (by rfl)]
    refine appG_wp _ _ _ rfl 68 5 40 Try.underlying22 elemMt (by decide) bo (fun i r => mtV (mtl l i) r) n _ rfl bl 0 1 1 (fun _ r => mtV ⟨mp, m1, m2, m3, m4⟩ r) rfl own.out (el5 (m := ⟨mp, m1, m2, m3, m4⟩) lit.out.1 lit.out.2.1 lit.out.2.2.1 lit.out.2.2.2.1 lit.out.2.2.2.2) (by decide) (fun _ _ _ _ => rfl) (by omega) (by decide) (by have := (OwnG.block own.out bo rfl).2; omega) (fun i r => mtV (if i < n then mtl l i else ⟨mp, m1, m2, m3, m4⟩) r) (fun i r hi _ => by rw [if_pos hi]) (fun i r hi _ => by rw [if_neg (by omega)]) ?_
    intro bx cx W5 ownx g8 at8 hbx ext8
    have s5 : Ext w W5 := ext8 w s4 hwb
    have mts := hid (ap_end hl ownx)
    replace box := hid (Bx2.gb box.out (show W4.grownBy W5 (some bo) from g8) hne)
    clear ownx g8 at8 hbx ext8 own lit
    refine hK.out _ _ s5 (fun _ => ?_)
    clear hK K
    try simp only [sxA, sxB, sxC, Act.put, sxD, sxE, sxF]
    refine wpAnyH_ready (rs := [8]) (by kernel_rfl) (by simp) ?_
    refine AllReadyH.cons (o := _) rfl (fun K hK => ?_) AllReadyH.nil
    go_simp
    refine (hL.out _ _ _ mts.out).mono ?_; rintro e W6 ⟨rfl, e6⟩
    have s6 := s5.trans e6
    refine hK.out _ _ s6 (fun _ => ?_)
    clear hK K
    try simp only [sxA, sxB, sxC, Act.put, sxD, sxE, sxF]
    replace box := hid (box.out.ext e6)
    replace mts := hid (mts.out.ext e6)
    refine tkB (i := 9) (v := ?_) rfl hpan ?yl ?_
    case yl => (intro w hSw; (try dsimp only at hSw);  go_simp); with_reducible rfl
    try simp only [sxA, sxB, sxC, Act.put, sxD, sxE, sxF]
    refine tkB (i := 10) (v := ?_) rfl hpan ?yl ?_
    case yl => (intro w hSw; (try dsimp only at hSw);  go_simp); with_reducible rfl
    try simp only [sxA, sxB, sxC, Act.put, sxD, sxE, sxF]
    refine tkB (i := 11) (v := ?_) rfl hpan ?yl ?_
    case yl => (intro w hSw; (try dsimp only at hSw);  go_simp); with_reducible rfl
    try simp only [sxA, sxB, sxC, Act.put, sxD, sxE, sxF]
    refine tkB (i := 12) (v := ?_) rfl hpan ?yl ?_
    case yl => (intro w hSw; (try dsimp only at hSw);  go_simp); with_reducible rfl
    try simp only [sxA, sxB, sxC, Act.put, sxD, sxE, sxF]
    refine wpAnyH_ready (rs := [14]) (by kernel_rfl) (by simp) ?_
    refine AllReadyH.cons (o := _) rfl (fun K hK => ?_) AllReadyH.nil
    obtain ⟨z0, z1, f0, f1⟩ := box.out
    have lz := cell_lt z0; dsimp only at lz
    go_simp
    refine hK.out _ _ exE (fun _ => ?_)
    clear hK K
    try simp only [sxA, sxB, sxC, Act.put, sxD, sxE, sxF]
    refine name_any (fun W7 hW => ?_)
    have s7 : Ext w W7 := by rw [hW]; exact exE
    have bs := hid (show Bx2 W7 Bb N D by rw [hW]; exact Bx2.ext (Bx2.store ⟨z0, z1, f0, f1⟩ _ _) exE)
    clear hW z0 z1 f0 f1 lz box
    refine tkB (i := 15) (v := ?_) rfl hpan ?yl ?_
    case yl => (intro w hSw; (try dsimp only at hSw);  go_simp); with_reducible rfl
    try simp only [sxA, sxB, sxC, Act.put, sxD, sxE, sxF]
    refine tkB (i := 16) (v := ?_) rfl hpan ?yl ?_
    case yl => (intro w hSw; (try dsimp only at hSw);  go_simp); with_reducible rfl
    try simp only [sxA, sxB, sxC, Act.put, sxD, sxE, sxF]
    refine wpAnyH_done (by kernel_rfl) ?_ _
    (try simp only [sxA, sxB, sxC, Act.put, sxD, sxE, sxF])
    rw [hQ2.out]
    exact ⟨rfl, _, _, _, _, _, _, _, _, _, _, _, _, _, _, rfl, s7, ⟨bs.out.1, bs.out.2⟩⟩
   refine AllReadyH.cons (o := _) rfl (fun K hK => ?_) ?_
   ·skip
    go_simp
    refine hK.out _ _ (s2.trans (Ext.alloc (Ext.refl _) _)) (fun _ => ?_)
    clear hK K
    try simp only [sxA, sxB, sxC, Act.put, sxD, sxE, sxF]
    refine name_any (fun W3 hW => ?_)
    have e3 : Ext W2 W3 := by rw [hW]; exact Ext.alloc (Ext.refl _) _
    have s3 := s2.trans e3
    have lit := hid (show C5 W3 W2.heap.size mp m1 m2 m3 m4 from ⟨by rw [hW]; simp [go_sem], by rw [hW]; simp [go_sem], by rw [hW]; simp [go_sem], by rw [hW]; simp [go_sem], by rw [hW]; simp [go_sem]⟩)
    clear hW
    obtain ⟨bl, hb_⟩ : ∃ z, W2.heap.size = z := ⟨_, rfl⟩
    rw [hb_] at lit ⊢
    clear hb_
    replace box := hid (box.out.ext e3)
    refine wpAnyH_ready (rs := [2]) (by kernel_rfl) (by simp) ?_
    refine AllReadyH.cons (o := _) rfl (fun K hK => ?_) AllReadyH.nil
    rw [if_pos (by rfl)]
    refine appGF_wp _ _ _ rfl 68 5 40 Try.underlying22 elemMt (by decide) (fun i r => mtV (mtl l i) r) 0 _ rfl (fun i hi => absurd hi (by omega)) bm om n cap (fun i r => mtV (mtl l i) r) rfl (fun i hi r hr => s3.cell (hcl.out i hi r hr)) n0 (by omega) (by decide) (fun i r => mtV (mtl l i) r) (fun _ _ h _ => absurd h (by omega)) (fun i r hi _ => by rw [Nat.zero_add]) ?_
    intro cp2 W4 own e4
    have s4 := s3.trans e4
    rw [Nat.zero_add] at own
    have hwb := Ext.size s3
    have hne : Bb ≠ W3.heap.size := by have := box.out.lt; omega
    obtain ⟨bo, hb_⟩ : ∃ z, W3.heap.size = z := ⟨_, rfl⟩
    rw [hb_] at own hwb hne ⊢
    clear hb_
    replace own := hid own
    refine hK.out _ _ s4 (fun _ => ?_)
    clear hK K
    try simp only [sxA, sxB, sxC, Act.put, sxD, sxE, sxF]
    try rw [Nat.zero_add]
    replace lit := hid (lit.out.ext e4)
    replace box := hid (box.out.ext e4)
    refine wpAnyH_ready (rs := [5]) (by kernel_rfl) (by simp) ?_
    refine AllReadyH.cons (o := _) rfl (fun K hK => ?_) AllReadyH.nil
    rw [if_pos (by rfl)]
    refine appG_wp _ _ _ rfl 68 5 40 Try.underlying22 elemMt (by decide) bo (fun i r => mtV (mtl l i) r) n _ rfl bl 0 1 1 (fun _ r => mtV ⟨mp, m1, m2, m3, m4⟩ r) rfl own.out (el5 (m := ⟨mp, m1, m2, m3, m4⟩) lit.out.1 lit.out.2.1 lit.out.2.2.1 lit.out.2.2.2.1 lit.out.2.2.2.2) (by decide) (fun _ _ _ _ => rfl) (by omega) (by decide) (by have := (OwnG.block own.out bo rfl).2; omega) (fun i r => mtV (if i < n then mtl l i else ⟨mp, m1, m2, m3, m4⟩) r) (fun i r hi _ => by rw [if_pos hi]) (fun i r hi _ => by rw [if_neg (by omega)]) ?_
    intro bx cx W5 ownx g8 at8 hbx ext8
    have s5 : Ext w W5 := ext8 w s4 hwb
    have mts := hid (ap_end hl ownx)
    replace box := hid (Bx2.gb box.out (show W4.grownBy W5 (some bo) from g8) hne)
    clear ownx g8 at8 hbx ext8 own lit
    refine hK.out _ _ s5 (fun _ => ?_)
    clear hK K
    try simp only [sxA, sxB, sxC, Act.put, sxD, sxE, sxF]
    refine wpAnyH_ready (rs := [8]) (by kernel_rfl) (by simp) ?_
    refine AllReadyH.cons (o := _) rfl (fun K hK => ?_) AllReadyH.nil
    go_simp
    refine (hL.out _ _ _ mts.out).mono ?_; rintro e W6 ⟨rfl, e6⟩
    have s6 := s5.trans e6
    refine hK.out _ _ s6 (fun _ => ?_)
    clear hK K
    try simp only [sxA, sxB, sxC, Act.put, sxD, sxE, sxF]
    replace box := hid (box.out.ext e6)
    replace mts := hid (mts.out.ext e6)
    refine tkB (i := 9) (v := ?_) rfl hpan ?yl ?_
    case yl => (intro w hSw; (try dsimp only at hSw);  go_simp); with_reducible rfl
    try simp only [sxA, sxB, sxC, Act.put, sxD, sxE, sxF]
    refine tkB (i := 10) (v := ?_) rfl hpan ?yl ?_
    case yl => (intro w hSw; (try dsimp only at hSw);  go_simp); with_reducible rfl
    try simp only [sxA, sxB, sxC, Act.put, sxD, sxE, sxF]
    refine tkB (i := 11) (v := ?_) rfl hpan ?yl ?_
    case yl => (intro w hSw; (try dsimp only at hSw);  go_simp); with_reducible rfl
    try simp only [sxA, sxB, sxC, Act.put, sxD, sxE, sxF]
    refine tkB (i := 12) (v := ?_) rfl hpan ?yl ?_
    case yl => (intro w hSw; (try dsimp only at hSw);  go_simp); with_reducible rfl
    try simp only [sxA, sxB, sxC, Act.put, sxD, sxE, sxF]
    refine wpAnyH_ready (rs := [14]) (by kernel_rfl) (by simp) ?_
    refine AllReadyH.cons (o := _) rfl (fun K hK => ?_) AllReadyH.nil
    obtain ⟨z0, z1, f0, f1⟩ := box.out
    have lz := cell_lt z0; dsimp only at lz
    go_simp
    refine hK.out _ _ exE (fun _ => ?_)
    clear hK K
    try simp only [sxA, sxB, sxC, Act.put, sxD, sxE, sxF]
    refine name_any (fun W7 hW => ?_)
    have s7 : Ext w W7 := by rw [hW]; exact exE
    have bs := hid (show Bx2 W7 Bb N D by rw [hW]; exact Bx2.ext (Bx2.store ⟨z0, z1, f0, f1⟩ _ _) exE)
    clear hW z0 z1 f0 f1 lz box
    refine tkB (i := 15) (v := ?_) rfl hpan ?yl ?_
    case yl => (intro w hSw; (try dsimp only at hSw);  go_simp); with_reducible rfl
    try simp only [sxA, sxB, sxC, Act.put, sxD, sxE, sxF]
    refine tkB (i := 16) (v := ?_) rfl hpan ?yl ?_
    case yl => (intro w hSw; (try dsimp only at hSw);  go_simp); with_reducible rfl
    try simp only [sxA, sxB, sxC, Act.put, sxD, sxE, sxF]
    refine wpAnyH_done (by kernel_rfl) ?_ _
    (try simp only [sxA, sxB, sxC, Act.put, sxD, sxE, sxF])
    rw [hQ2.out]
    exact ⟨rfl, _, _, _, _, _, _, _, _, _, _, _, _, _, _, rfl, s7, ⟨bs.out.1, bs.out.2⟩⟩
   exact AllReadyH.nil
  refine AllReadyH.cons (o := _) rfl (fun K hK => ?_) ?_
  ·skip
   go_simp
   refine hK.out _ _ (s1.trans (Ext.alloc (Ext.refl _) _)) (fun _ => ?_)
   clear hK K
   try simp only [sxA, sxB, sxC, Act.put, sxD, sxE, sxF]
   refine name_any (fun W2 hW => ?_)
   have e2 : Ext W1 W2 := by rw [hW]; exact Ext.alloc (Ext.refl _) _
   have s2 := s1.trans e2
   have lit := hid (show C5 W2 W1.heap.size mp m1 m2 m3 m4 from ⟨by rw [hW]; simp [go_sem], by rw [hW]; simp [go_sem], by rw [hW]; simp [go_sem], by rw [hW]; simp [go_sem], by rw [hW]; simp [go_sem]⟩)
   clear hW
   obtain ⟨bl, hb_⟩ : ∃ z, W1.heap.size = z := ⟨_, rfl⟩
   rw [hb_] at lit ⊢
   clear hb_
   replace box := hid (box.out.ext e2)
   refine wpAnyH_ready (rs := [0]) (by kernel_rfl) (by simp) ?_
   refine AllReadyH.cons (o := _) rfl (fun K hK => ?_) AllReadyH.nil
   go_simp
   refine hK.out _ _ (s2.trans (Ext.alloc (Ext.refl _) _)) (fun _ => ?_)
   clear hK K
   try simp only [sxA, sxB, sxC, Act.put, sxD, sxE, sxF]
   refine name_any (fun W3 hW => ?_)
   have e3 : Ext W2 W3 := by rw [hW]; exact Ext.alloc (Ext.refl _) _
   have s3 := s2.trans e3
   clear hW
   obtain ⟨bz, hb_⟩ : ∃ z, W2.heap.size = z := ⟨_, rfl⟩
   rw [hb_] at  ⊢
   clear hb_
   replace box := hid (box.out.ext e3)
   replace lit := hid (lit.out.ext e3)
   refine wpAnyH_ready (rs := [2]) (by kernel_rfl) (by simp) ?_
   refine AllReadyH.cons (o := _) rfl (fun K hK => ?_) AllReadyH.nil
   rw [if_pos (by rfl)]
   refine appGF_wp _ _ _ rfl 68 5 40 Try.underlying22 elemMt (by decide) (fun i r => mtV (mtl l i) r) 0 _ rfl (fun i hi => absurd hi (by omega)) bm om n cap (fun i r => mtV (mtl l i) r) rfl (fun i hi r hr => s3.cell (hcl.out i hi r hr)) n0 (by omega) (by decide) (fun i r => mtV (mtl l i) r) (fun _ _ h _ => absurd h (by omega)) (fun i r hi _ => by rw [Nat.zero_add]) ?_
   intro cp2 W4 own e4
   have s4 := s3.trans e4
   rw [Nat.zero_add] at own
   have hwb := Ext.size s3
   have hne : Bb ≠ W3.heap.size := by have := box.out.lt; omega
   obtain ⟨bo, hb_⟩ : ∃ z, W3.heap.size = z := ⟨_, rfl⟩
   rw [hb_] at own hwb hne ⊢
   clear hb_
   replace own := hid own
   refine hK.out _ _ s4 (fun _ => ?_)
   clear hK K
   try simp only [sxA, sxB, sxC, Act.put, sxD, sxE, sxF]
   try rw [Nat.zero_add]
   replace lit := hid (lit.out.ext e4)
   replace box := hid (box.out.ext e4)
   refine wpAnyH_ready (rs := [5]) (by kernel_rfl) (by simp) ?_
   refine AllReadyH.cons (o := _) rfl (fun K hK => ?_) AllReadyH.nil
   rw [if_pos (by rfl)]
   refine appG_wp _ _ _ rfl 68 5 40 Try.underlying22 elemMt (by decide) bo (fun i r => mtV (mtl l i) r) n _ rfl bl 0 1 1 (fun _ r => mtV ⟨mp, m1, m2, m3, m4⟩ r) rfl own.out (el5 (m := ⟨mp, m1, m2, m3, m4⟩) lit.out.1 lit.out.2.1 lit.out.2.2.1 lit.out.2.2.2.1 lit.out.2.2.2.2) (by decide) (fun _ _ _ _ => rfl) (by omega) (by decide) (by have := (OwnG.block own.out bo rfl).2; omega) (fun i r => mtV (if i < n then mtl l i else ⟨mp, m1, m2, m3, m4⟩) r) (fun i r hi _ => by rw [if_pos hi]) (fun i r hi _ => by rw [if_neg (by omega)]) ?_
   intro bx cx W5 ownx g8 at8 hbx ext8
   have s5 : Ext w W5 := ext8 w s4 hwb
   have mts := hid (ap_end hl ownx)
   replace box := hid (Bx2.gb box.out (show W4.grownBy W5 (some bo) from g8) hne)
   clear ownx g8 at8 hbx ext8 own lit
   refine hK.out _ _ s5 (fun _ => ?_)
   clear hK K
   try simp only [sxA, sxB, sxC, Act.put, sxD, sxE, sxF]
   refine wpAnyH_ready (rs := [8]) (by kernel_rfl) (by simp) ?_
   refine AllReadyH.cons (o := _) rfl (fun K hK => ?_) AllReadyH.nil
   go_simp
   refine (hL.out _ _ _ mts.out).mono ?_; rintro e W6 ⟨rfl, e6⟩
   have s6 := s5.trans e6
   refine hK.out _ _ s6 (fun _ => ?_)
   clear hK K
   try simp only [sxA, sxB, sxC, Act.put, sxD, sxE, sxF]
   replace box := hid (box.out.ext e6)
   replace mts := hid (mts.out.ext e6)
   refine tkB (i := 9) (v := ?_) rfl hpan ?yl ?_
   case yl => (intro w hSw; (try dsimp only at hSw);  go_simp); with_reducible rfl
   try simp only [sxA, sxB, sxC, Act.put, sxD, sxE, sxF]
   refine tkB (i := 10) (v := ?_) rfl hpan ?yl ?_
   case yl => (intro w hSw; (try dsimp only at hSw);  go_simp); with_reducible rfl
   try simp only [sxA, sxB, sxC, Act.put, sxD, sxE, sxF]
   refine tkB (i := 11) (v := ?_) rfl hpan ?yl ?_
   case yl => (intro w hSw; (try dsimp only at hSw);  go_simp); with_reducible rfl
   try simp only [sxA, sxB, sxC, Act.put, sxD, sxE, sxF]
   refine tkB (i := 12) (v := ?_) rfl hpan ?yl ?_
   case yl => (intro w hSw; (try dsimp only at hSw);  go_simp); with_reducible rfl
   try simp only [sxA, sxB, sxC, Act.put, sxD, sxE, sxF]
   refine wpAnyH_ready (rs := [14]) (by kernel_rfl) (by simp) ?_
   refine AllReadyH.cons (o := _) rfl (fun K hK => ?_) AllReadyH.nil
   obtain ⟨z0, z1, f0, f1⟩ := box.out
   have lz := cell_lt z0; dsimp only at lz
   go_simp
   refine hK.out _ _ exE (fun _ => ?_)
   clear hK K
   try simp only [sxA, sxB, sxC, Act.put, sxD, sxE, sxF]
   refine name_any (fun W7 hW => ?_)
   have s7 : Ext w W7 := by rw [hW]; exact exE
   have bs := hid (show Bx2 W7 Bb N D by rw [hW]; exact Bx2.ext (Bx2.store ⟨z0, z1, f0, f1⟩ _ _) exE)
   clear hW z0 z1 f0 f1 lz box
   refine tkB (i := 15) (v := ?_) rfl hpan ?yl ?_
   case yl => (intro w hSw; (try dsimp only at hSw);  go_simp); with_reducible rfl
   try simp only [sxA, sxB, sxC, Act.put, sxD, sxE, sxF]
   refine tkB (i := 16) (v := ?_) rfl hpan ?yl ?_
   case yl => (intro w hSw; (try dsimp only at hSw);  go_simp); with_reducible rfl
   try simp only [sxA, sxB, sxC, Act.put, sxD, sxE, sxF]
   refine wpAnyH_done (by kernel_rfl) ?_ _
   (try simp only [sxA, sxB, sxC, Act.put, sxD, sxE, sxF])
   rw [hQ2.out]
   exact ⟨rfl, _, _, _, _, _, _, _, _, _, _, _, _, _, _, rfl, s7, ⟨bs.out.1, bs.out.2⟩⟩
  exact AllReadyH.nil
 exact AllReadyH.nil
set_option maxHeartbeats 16000000 in
theorem alloyMore_any (l : List Met) (q : FitM l) (a : Option Addr) (cap : Nat) (u c : Int) (s : Bool) (x3 y3 z3 t3 r3 wi pr le co : Int) (w : World) (hM : Mts w a l) (hl : l.length ≤ 9223372036854775807) (iu : I64 u) (ic : I64 c) (wx : I64 x3) (wy : I64 y3) (wz : I64 z3) (wt : I64 t3) (wr_ : I64 r3) (ik : 0 ≤ wi ∧ wi ≤ 255) (hpr : 0 ≤ pr ∧ pr ≤ 65535) (hle : 0 ≤ le ∧ le ≤ 65535) (hco : 0 ≤ co ∧ co ≤ 65535) :
 Calls Try.prog 15 #[.slice a l.length cap, (.agg #[.int .i64 (u), .int .i64 (c)]), .bool s, .agg #[.int .i64 x3, .int .i64 y3, .int .i64 z3, .int .i64 t3, .int .i64 r3], .int .u8 wi, .int .u16 pr, .int .u16 le, .int .u16 co] w fun e w' => e = .returned (.bool true) ∧ Ext w w' := by
 have hf := hid (fun W (x : Ext w W) => fineL_any l q hl a cap u c W (hM.ext x))
 by_cases g : chkB l u c = 0
 case neg =>
  rw [decide_eq_false g] at hf
  replace g := hid g
  clear hM
  go_enter Try.func15, Try.ntmps15
  go_wp2_with fail
  refine (hf.out _ exE).mono ?_; rintro e w1 ⟨rfl, hE⟩
  have x1 := hid (show Ext w w1 from exE)
  go_wp2_with fail
  refine (works_any _).mono ?_; rintro e w2 ⟨rfl, hE2⟩
  go_wp2_with fail
  go_ret
  exact ⟨rfl, by have := x1.out; exact exE⟩
 rw [decide_eq_true g] at hf
 obtain ⟨v, hu, hc⟩ := chkB_ok g
 have n1 := v.n1; have n6 := v.n6
 have hl2 : l.length ≤ 1000 := by omega
 have hcm : chkM l = 0 := by by_cases h : chkM l = 0; exact h; (unfold chkB at g; rw [if_neg h] at g; exact absurd g h)
 by_cases g6 : 6 ≤ l.length
 ·have g6I : (6 : Int) ≤ (l.length : Int) := by omega
  replace g := hid g
  clear hM
  go_enter Try.func15, Try.ntmps15
  go_wp2_with fail
  refine (hf.out _ exE).mono ?_; rintro e w1 ⟨rfl, hE⟩
  have x1 := hid (show Ext w w1 from exE)
  go_wp2_with fail
  refine (works_any _).mono ?_; rintro e w2 ⟨rfl, hE2⟩
  go_wp2_with fail
  go_ret
  exact ⟨rfl, by have := x1.out; exact exE⟩
 have g6I : ¬ (6 : Int) ≤ (l.length : Int) := by omega
 have n5 : l.length ≤ 5 := by omega
 have n0 : 0 < l.length := by omega
 obtain ⟨K, hK0⟩ : ∃ K : Nat, wi = (K : Int) := ⟨wi.toNat, by omega⟩
 subst hK0
 have hml := Nat.mod_lt K n0
 have hm1 : ((K : Int)).tmod (l.length : Int) = ((K % l.length : Nat) : Int) := by rw [Int.tmod_eq_emod_of_nonneg (by omega)]; rfl
 obtain ⟨M, hMd⟩ : ∃ M, K % l.length = M := ⟨_, rfl⟩
 rw [hMd] at hml hm1
 clear hMd
 obtain ⟨Q, hQ⟩ : ∃ z : Met, z = ⟨x3, y3, z3, t3, r3⟩ := ⟨_, rfl⟩
 have qA : FitM (apM l Q) := apM_fit q (by subst hQ; exact ⟨wx, wy, wz, wt, wr_⟩)
 have hws := ws_ap (u := u) (c := c) s g hml n5 hpr.1 hle.1 hco.1
 have hL := hid (fun W h => leastL_any l q g a cap iu ic s W h)
 have hFx := hid (fun a2 c2 W h => by have := fineL_any (apM l Q) qA (by rw [apM_len]; omega) a2 c2 u c W h; rw [apM_len] at this; exact this)
 have hLx := hid (fun (hP : chkB (apM l Q) u c = 0) a2 c2 W h => by have := leastL_any (apM l Q) qA hP a2 c2 iu ic s W h; rw [apM_len] at this; exact this)
 have hLw := hid (fun a2 c2 W h => by have := leastL_any (apM l (wsM (mtl l M) pr le co)) (vld_fit hws.1) hws.2.1 a2 c2 iu ic s W h; rw [apM_len, hws.2.2.1, hws.2.2.2.1, hws.2.2.2.2] at this; exact this)
 have o1 := lst_ok (u := u) (c := c) g s
 have hcc : Hid (chkB (apM l Q) u c = 0 → (decide (cheE l u c s = 0) = true ∧ decide (cheE (apM l Q) u c s = 0) = true ∧ (∀ W, Calls Try.prog 46 #[(.agg #[.int .i64 (lstN l u c s), .int .i64 (lstD l u c s)]), (.agg #[.int .i64 (lstN (apM l Q) u c s), .int .i64 (lstD (apM l Q) u c s)])] W fun e w' => e = .returned (.bool false) ∧ Ext W w')) ∨ decide (cheE l u c s = 0) = false) := hid (fun hP => by
  by_cases e1 : cheE l u c s = 0
  ·have k1 := ap_less (m := Q) (s := s) g hP e1
   exact .inl ⟨decide_eq_true e1, decide_eq_true k1.1, fun W => by have := lessR_any _ _ _ _ (OkS.mul (o1 e1) (lst_ok hP s k1.1)) (OkS.mul (lst_ok hP s k1.1) (o1 e1)) W; rw [k1.2] at this; exact this⟩
  ·exact .inr (decide_eq_false e1))
 have hv1 := hid (And.intro (v.pr M) (And.intro (v.le M) (v.co M)))
 have hw := hid (And.intro hpr (And.intro hle hco))
 obtain ⟨bm, om, hae, hbm, hmc⟩ := hM.at n0
 subst hae
 have hcl := hid (mts_cells hmc)
 have hmm := hid (hmc M hml)
 clear hbm hmc
 replace hM := hid hM
 replace g := hid g
 clear q v hu hc hcm hl2 hws o1 qA hpr hle hco
 obtain ⟨n, hn⟩ : ∃ n, l.length = n := ⟨_, rfl⟩
 have hln := hn
 rw [hn] at hf n1 n6 n0 n5 g6I hml hm1 hL hFx hLx hLw hcl ⊢
 replace hln := hid hln
 replace hn := hid hn
 clear g6
 obtain ⟨WM, hWM⟩ : ∃ z, wsM (mtl l M) pr le co = z := ⟨_, rfl⟩
 rw [hWM] at hLw
 replace hWM := hid hWM
 generalize lstN l u c s = N at *
 generalize lstD l u c s = D at *
 generalize decide (cheE l u c s = 0) = b at *
 generalize lstN (apM l Q) u c s = N2 at *
 generalize lstD (apM l Q) u c s = D2 at *
 generalize decide (cheE (apM l Q) u c s = 0) = b2 at *
 generalize chkB (apM l Q) u c = CP at *
 have hn2 : (0 : Int) < (n : Int) := by omega
 have e4 : ¬ (n : Int) = 0 := by omega
 have e4n : ¬ n = 0 := by omega
 have e0 : ((n : Int) == 0) = false := by rw [beq_eq_false_iff_ne]; omega
 have e3 : (n : Int) ≠ 0 := by omega
 have hiM : (M : Int) < (n : Int) := by omega
 go_enter Try.func15, Try.ntmps15
 go_wp2_with fail
 refine (hf.out _ exE).mono ?_; rintro e w1 ⟨rfl, hE⟩
 have X := hid (show Ext w w1 from exE)
 have t := hid (show C2 w1 w.heap.size (u) (c) from ⟨hE.cell (p := ⟨w.heap.size, 0, none⟩) (v := .int .i64 (u)) (by simp [go_sem]), hE.cell (p := ⟨w.heap.size, 1, none⟩) (v := .int .i64 (c)) (by simp [go_sem])⟩)
 have mb := hid (show C5 w1 (w.heap.size + 1) (x3) (y3) (z3) (t3) (r3) from ⟨hE.cell (p := ⟨w.heap.size + 1, 0, none⟩) (v := .int .i64 (x3)) (by simp [go_sem]), hE.cell (p := ⟨w.heap.size + 1, 1, none⟩) (v := .int .i64 (y3)) (by simp [go_sem]), hE.cell (p := ⟨w.heap.size + 1, 2, none⟩) (v := .int .i64 (z3)) (by simp [go_sem]), hE.cell (p := ⟨w.heap.size + 1, 3, none⟩) (v := .int .i64 (t3)) (by simp [go_sem]), hE.cell (p := ⟨w.heap.size + 1, 4, none⟩) (v := .int .i64 (r3)) (by simp [go_sem])⟩)
 replace hM := hid (hM.out.ext X.out)
 obtain ⟨T, hT⟩ : ∃ T, w.heap.size = T := ⟨_, rfl⟩
 rw [hT] at t mb ⊢
 clear hE hf hT
 obtain ⟨o0, o1⟩ := t.out; have lo0 := cell_lt o0; dsimp only at lo0
 go_wp2_with fail
 refine name_c (fun v1 hv => ?_)
 have x1 : Ext w1 v1 := by rw [hv]; exact exE
 replace X := hid (X.out.trans x1); replace hM := hid (hM.out.ext x1); replace t := hid (t.out.ext x1); replace mb := hid (mb.out.ext x1)
 clear o0 o1 lo0
 clear hv x1
 refine (hL.out _ hM.out).mono ?_; rintro e u2 ⟨rfl, hE⟩
 replace X := hid (X.out.trans hE); replace hM := hid (hM.out.ext hE); replace t := hid (t.out.ext hE); replace mb := hid (mb.out.ext hE)
 clear hE
 go_upto_region 6 with (fail)
 refine name_wp (fun v3 hv => ?_)
 have x1 : Ext u2 v3 := by rw [hv]; exact exE
 have b17 := hid (show C2 v3 u2.heap.size (N) (D) from ⟨by rw [hv]; simp [go_sem], by rw [hv]; simp [go_sem]⟩)
 replace X := hid (X.out.trans x1); replace hM := hid (hM.out.ext x1); replace t := hid (t.out.ext x1); replace mb := hid (mb.out.ext x1)
 clear hv x1
 obtain ⟨Bb17, hBn⟩ : ∃ z, u2.heap.size = z := ⟨_, rfl⟩
 rw [hBn] at b17 ⊢
 clear hBn
 have hcv := fun i hi r hr => X.out.cell (hcl.out i hi r hr)
 subst hQ
 refine wp_mono (stZ6 hln.out n0 n5 hcv mb.out.1 mb.out.2.1 mb.out.2.2.1 mb.out.2.2.2.1 mb.out.2.2.2.2) ?_
 rintro e a' v90 ⟨rfl, bx, cx, zV', zW', zX', zY', zZ', uA', rfl, x, n0_⟩
 replace X := hid (X.out.trans x); replace hM := hid (hM.out.ext x); replace t := hid (t.out.ext x); replace mb := hid (mb.out.ext x)
 replace b17 := hid (b17.out.ext x)
 have hA := hid n0_
 clear x n0_ hcv
 obtain ⟨o0, o1⟩ := t.out; have lo0 := cell_lt o0; dsimp only at lo0
 go_wp2_with fail
 refine name_c (fun v4 hv => ?_)
 have x1 : Ext v90 v4 := by rw [hv]; exact exE
 replace X := hid (X.out.trans x1); replace hM := hid (hM.out.ext x1); replace t := hid (t.out.ext x1); replace mb := hid (mb.out.ext x1)
 replace b17 := hid (b17.out.ext x1); replace hA := hid (hA.out.ext x1)
 clear o0 o1 lo0
 clear hv x1
 refine (hFx.out _ _ _ hA.out).mono ?_; rintro e u5 ⟨rfl, hE⟩
 replace X := hid (X.out.trans hE); replace hM := hid (hM.out.ext hE); replace t := hid (t.out.ext hE); replace mb := hid (mb.out.ext hE)
 replace b17 := hid (b17.out.ext hE); replace hA := hid (hA.out.ext hE)
 clear hE
 by_cases gP : CP = 0
 ·subst gP
  rw [decide_eq_true rfl]
  obtain ⟨o0, o1⟩ := t.out; have lo0 := cell_lt o0; dsimp only at lo0
  go_wp2_with fail
  refine name_c (fun v6 hv => ?_)
  have x1 : Ext u5 v6 := by rw [hv]; exact exE
  replace X := hid (X.out.trans x1); replace hM := hid (hM.out.ext x1); replace t := hid (t.out.ext x1); replace mb := hid (mb.out.ext x1)
  replace b17 := hid (b17.out.ext x1); replace hA := hid (hA.out.ext x1)
  clear o0 o1 lo0
  clear hv x1
  refine (hLx.out (by trivial) _ _ _ hA.out).mono ?_; rintro e u7 ⟨rfl, hE⟩
  replace X := hid (X.out.trans hE); replace hM := hid (hM.out.ext hE); replace t := hid (t.out.ext hE); replace mb := hid (mb.out.ext hE)
  replace b17 := hid (b17.out.ext hE); replace hA := hid (hA.out.ext hE)
  clear hE
  go_upto_region 9 with (fail)
  refine name_wp (fun v8 hv => ?_)
  have x1 : Ext u7 v8 := by rw [hv]; exact exE
  have b21 := hid (show C2 v8 u7.heap.size (N2) (D2) from ⟨by rw [hv]; simp [go_sem], by rw [hv]; simp [go_sem]⟩)
  replace X := hid (X.out.trans x1); replace hM := hid (hM.out.ext x1); replace t := hid (t.out.ext x1); replace mb := hid (mb.out.ext x1)
  replace b17 := hid (b17.out.ext x1); replace hA := hid (hA.out.ext x1)
  clear hv x1
  obtain ⟨Bb21, hBn⟩ : ∃ z, u7.heap.size = z := ⟨_, rfl⟩
  rw [hBn] at b21 ⊢
  clear hBn
  refine wp_mono (stZ9 (hcc.out (by trivial)) b17.out.1 b17.out.2 b21.out.1 b21.out.2) ?_
  rintro e a' v91 ⟨rfl, uM', uN', uO', uP', uQ', uR', uS', uT', uU', uV', uW', uX', uY', rfl, x⟩
  replace X := hid (X.out.trans x); replace hM := hid (hM.out.ext x); replace t := hid (t.out.ext x); replace mb := hid (mb.out.ext x)
  replace b17 := hid (b17.out.ext x); replace hA := hid (hA.out.ext x); replace b21 := hid (b21.out.ext x)
  clear x
  go_upto_region 11 with (fail)
  refine name_wp (fun v9 hv => ?_)
  have x1 : Ext v91 v9 := by rw [hv]; exact exE
  replace X := hid (X.out.trans x1); replace hM := hid (hM.out.ext x1); replace t := hid (t.out.ext x1); replace mb := hid (mb.out.ext x1)
  replace b17 := hid (b17.out.ext x1); replace hA := hid (hA.out.ext x1); replace b21 := hid (b21.out.ext x1)
  clear hv x1
  obtain ⟨q0, q1, q2, q3, q4⟩ := hmm.out.ext X.out
  have lq := cell_lt q0; dsimp only at lq
  obtain ⟨Mj, hMj⟩ : ∃ z, mtl l M = z := ⟨_, rfl⟩
  have hv2 := hid hv1.out
  rw [hMj] at q0 q1 q2 q3 q4 hv2
  have hW2 := hid hWM.out
  rw [hMj] at hW2
  obtain ⟨p, ll, lh, cl, ch⟩ := Mj
  dsimp only at q0 q1 q2 q3 q4 hv2
  replace hMj := hid hMj
  have hin := ik
  have w9 := Go.IntWalk.i64_in (K : Int) (by omega)
  go_upto_region 12 with (fail)
  refine name_wp (fun vB hv => ?_)
  have kb := hid (show C5 vB v9.heap.size p ll lh cl ch from ⟨by rw [hv]; simp [go_sem], by rw [hv]; simp [go_sem], by rw [hv]; simp [go_sem], by rw [hv]; simp [go_sem], by rw [hv]; simp [go_sem]⟩)
  have kf : Hid (∀ r, r < 5 → vB.frozen? ⟨v9.heap.size, r, none⟩ = false) := hid (fun r hr => by rw [hv]; have hr5 : r = 0 ∨ r = 1 ∨ r = 2 ∨ r = 3 ∨ r = 4 := (by omega); rcases hr5 with rfl | rfl | rfl | rfl | rfl <;> simp [go_sem])
  have x1 : Ext v9 vB := by rw [hv]; exact exE
  clear hv q0 q1 q2 q3 q4 lq w9 hin
  have hbb := Nat.le_refl v9.heap.size
  obtain ⟨B24, hB24⟩ : ∃ z, v9.heap.size = z := ⟨_, rfl⟩
  have hbe := hB24
  rw [hB24] at kb kf ⊢
  have hbb : v9.heap.size ≤ B24 := by omega
  clear hB24 hbe
  obtain ⟨wp_, wa, wb, wc, wd, hWe⟩ : ∃ p1 l1 l2 c1 c2, WM = ⟨p1, l1, l2, c1, c2⟩ := ⟨_, _, _, _, _, rfl⟩
  subst hWe
  have hW3 := hW2.out
  unfold wsM at hW3
  simp only [Met.mk.injEq] at hW3
  obtain ⟨e1, e2, e3_, e4_, e5⟩ := hW3
  have d1 : (1000 < p + pr ∧ wp_ = 1000) ∨ (p + pr < 1000 ∧ wp_ = p + pr) ∨ (p + pr = 1000 ∧ wp_ = 1000) := by split at e1 <;> omega
  have d2 : (1000 < ll + le ∧ wa = 1000) ∨ (ll + le < 1000 ∧ wa = ll + le) ∨ (ll + le = 1000 ∧ wa = 1000) := by split at e2 <;> omega
  have d3 : (1000 < lh + le ∧ wb = 1000) ∨ (lh + le < 1000 ∧ wb = lh + le) ∨ (lh + le = 1000 ∧ wb = 1000) := by split at e3_ <;> omega
  have d4 : (cl - co < 0 ∧ wc = 0) ∨ (0 < cl - co ∧ wc = cl - co) ∨ (cl - co = 0 ∧ wc = 0) := by split at e4_ <;> omega
  have d5 : (ch - co < 0 ∧ wd = 0) ∨ (0 < ch - co ∧ wd = ch - co) ∨ (ch - co = 0 ∧ wd = 0) := by split at e5 <;> omega
  clear e1 e2 e3_ e4_ e5
  replace d1 := hid d1; replace d2 := hid d2; replace d3 := hid d3; replace d4 := hid d4; replace d5 := hid d5
  refine wp_mono (stZ12 x1 hbb kb.out.1 kb.out.2.1 kb.out.2.2.1 kb.out.2.2.2.1 kb.out.2.2.2.2 (kf.out 0 (by decide)) (kf.out 1 (by decide)) (kf.out 2 (by decide)) (kf.out 3 (by decide)) (kf.out 4 (by decide)) hw.out.1 (by have := hv2.out; omega) rfl d1.out) ?_
  rintro e a' vC ⟨rfl, iI', iJ', iK', iL', iM', iN', iO', rfl, x, n5_, nf_⟩
  replace kb := hid n5_; replace kf := hid nf_; clear n5_ nf_ x1
  have x1 := x; clear x
  go_upto_region 13 with (fail)
  refine name_wp (fun vD hv => ?_)
  have hx : Ext vC vD := by rw [hv]; exact exE
  replace kb := hid (kb.out.ext hx)
  have kf2 : Hid (∀ r, r < 5 → vD.frozen? ⟨B24, r, none⟩ = false) := hid (fun r hr => by rw [hv]; exact kf.out r hr)
  clear kf hv
  have kf := hid kf2.out
  clear kf2
  replace x1 := x1.trans hx
  clear hx
  refine wp_mono (stZ13 x1 hbb kb.out.1 kb.out.2.1 kb.out.2.2.1 kb.out.2.2.2.1 kb.out.2.2.2.2 (kf.out 0 (by decide)) (kf.out 1 (by decide)) (kf.out 2 (by decide)) (kf.out 3 (by decide)) (kf.out 4 (by decide)) hw.out.2.1 (by have := hv2.out; omega) (by have := hv2.out; omega) rfl rfl d2.out d3.out) ?_
  rintro e a' vE ⟨rfl, iP', iQ', iR', iS', iT', iU', iV', iW', iX', iY', iZ', oA', oB', oC', oD', oE', rfl, x, n5_, nf_⟩
  replace kb := hid n5_; replace kf := hid nf_; clear n5_ nf_ x1
  have x1 := x; clear x
  go_upto_region 14 with (fail)
  refine name_wp (fun vF hv => ?_)
  have hx : Ext vE vF := by rw [hv]; exact exE
  replace kb := hid (kb.out.ext hx)
  have kf2 : Hid (∀ r, r < 5 → vF.frozen? ⟨B24, r, none⟩ = false) := hid (fun r hr => by rw [hv]; exact kf.out r hr)
  clear kf hv
  have kf := hid kf2.out
  clear kf2
  replace x1 := x1.trans hx
  clear hx
  refine wp_mono (stZ14 x1 hbb kb.out.1 kb.out.2.1 kb.out.2.2.1 kb.out.2.2.2.1 kb.out.2.2.2.2 (kf.out 0 (by decide)) (kf.out 1 (by decide)) (kf.out 2 (by decide)) (kf.out 3 (by decide)) (kf.out 4 (by decide)) hw.out.2.2 (by have := hv2.out; omega) (by have := hv2.out; omega) rfl rfl d4.out d5.out) ?_
  rintro e a' vG ⟨rfl, oF', oG', oH', oI', oJ', oK', oL', oM', oN', oO', oP', oQ', oR', oS', oT', oU', rfl, x, n5_, nf_⟩
  replace kb := hid n5_; clear n5_ nf_ kf x1
  have x1 := x; clear x
  replace X := hid (X.out.trans x1); replace hM := hid (hM.out.ext x1); replace t := hid (t.out.ext x1); replace mb := hid (mb.out.ext x1)
  replace b17 := hid (b17.out.ext x1); replace hA := hid (hA.out.ext x1); replace b21 := hid (b21.out.ext x1)
  clear x1
  go_upto_region 15 with (fail)
  refine name_wp (fun v10 hv => ?_)
  have x1 : Ext vG v10 := by rw [hv]; exact exE
  replace X := hid (X.out.trans x1); replace hM := hid (hM.out.ext x1); replace t := hid (t.out.ext x1); replace mb := hid (mb.out.ext x1)
  replace b17 := hid (b17.out.ext x1); replace hA := hid (hA.out.ext x1); replace b21 := hid (b21.out.ext x1); replace kb := hid (kb.out.ext x1)
  clear hv x1
  have hcv := fun i hi r hr => X.out.cell (hcl.out i hi r hr)
  refine wp_mono (stZ15 hln.out n0 n5 hcv kb.out.1 kb.out.2.1 kb.out.2.2.1 kb.out.2.2.2.1 kb.out.2.2.2.2 t.out.1 t.out.2 hLw.out) ?_
  rintro e a' v95 ⟨rfl, Bb, oV', oW', oX', oY', oZ', qA', qB', qC', qD', qE', qF', qG', qH', rfl, x, n0_⟩
  replace X := hid (X.out.trans x); replace hM := hid (hM.out.ext x); replace t := hid (t.out.ext x); replace mb := hid (mb.out.ext x)
  replace b17 := hid (b17.out.ext x); replace hA := hid (hA.out.ext x); replace b21 := hid (b21.out.ext x); replace kb := hid (kb.out.ext x)
  have b25 := hid n0_
  clear x n0_ hcv
  go_upto_region 16 with (fail)
  refine name_wp (fun v11 hv => ?_)
  have x1 : Ext v95 v11 := by rw [hv]; exact exE
  replace X := hid (X.out.trans x1); replace hM := hid (hM.out.ext x1); replace t := hid (t.out.ext x1); replace mb := hid (mb.out.ext x1)
  replace b17 := hid (b17.out.ext x1); replace hA := hid (hA.out.ext x1); replace b21 := hid (b21.out.ext x1); replace kb := hid (kb.out.ext x1)
  replace b25 := hid (b25.out.ext x1)
  clear hv x1
  refine wp_mono (stZ16 b17.out.1 b17.out.2 b25.out.1 b25.out.2) ?_
  rintro e a' v96 ⟨rfl, qI', qJ', qK', qL', qM', qN', qO', qP', qQ', qR', qS', qT', qU', qV', rfl, x⟩
  have XF := hid (X.out.trans x)
  go_wp2_with fail
  go_ret
  exact ⟨rfl, XF.out⟩
 ·rw [decide_eq_false gP]
  go_upto_region 11 with (fail)
  refine name_wp (fun v12 hv => ?_)
  have x1 : Ext u5 v12 := by rw [hv]; exact exE
  replace X := hid (X.out.trans x1); replace hM := hid (hM.out.ext x1); replace t := hid (t.out.ext x1); replace mb := hid (mb.out.ext x1)
  replace b17 := hid (b17.out.ext x1); replace hA := hid (hA.out.ext x1)
  clear hv x1
  obtain ⟨q0, q1, q2, q3, q4⟩ := hmm.out.ext X.out
  have lq := cell_lt q0; dsimp only at lq
  obtain ⟨Mj, hMj⟩ : ∃ z, mtl l M = z := ⟨_, rfl⟩
  have hv2 := hid hv1.out
  rw [hMj] at q0 q1 q2 q3 q4 hv2
  have hW2 := hid hWM.out
  rw [hMj] at hW2
  obtain ⟨p, ll, lh, cl, ch⟩ := Mj
  dsimp only at q0 q1 q2 q3 q4 hv2
  replace hMj := hid hMj
  have hin := ik
  have w9 := Go.IntWalk.i64_in (K : Int) (by omega)
  go_upto_region 12 with (fail)
  refine name_wp (fun vB hv => ?_)
  have kb := hid (show C5 vB v12.heap.size p ll lh cl ch from ⟨by rw [hv]; simp [go_sem], by rw [hv]; simp [go_sem], by rw [hv]; simp [go_sem], by rw [hv]; simp [go_sem], by rw [hv]; simp [go_sem]⟩)
  have kf : Hid (∀ r, r < 5 → vB.frozen? ⟨v12.heap.size, r, none⟩ = false) := hid (fun r hr => by rw [hv]; have hr5 : r = 0 ∨ r = 1 ∨ r = 2 ∨ r = 3 ∨ r = 4 := (by omega); rcases hr5 with rfl | rfl | rfl | rfl | rfl <;> simp [go_sem])
  have x1 : Ext v12 vB := by rw [hv]; exact exE
  clear hv q0 q1 q2 q3 q4 lq w9 hin
  have hbb := Nat.le_refl v12.heap.size
  obtain ⟨B24, hB24⟩ : ∃ z, v12.heap.size = z := ⟨_, rfl⟩
  have hbe := hB24
  rw [hB24] at kb kf ⊢
  have hbb : v12.heap.size ≤ B24 := by omega
  clear hB24 hbe
  obtain ⟨wp_, wa, wb, wc, wd, hWe⟩ : ∃ p1 l1 l2 c1 c2, WM = ⟨p1, l1, l2, c1, c2⟩ := ⟨_, _, _, _, _, rfl⟩
  subst hWe
  have hW3 := hW2.out
  unfold wsM at hW3
  simp only [Met.mk.injEq] at hW3
  obtain ⟨e1, e2, e3_, e4_, e5⟩ := hW3
  have d1 : (1000 < p + pr ∧ wp_ = 1000) ∨ (p + pr < 1000 ∧ wp_ = p + pr) ∨ (p + pr = 1000 ∧ wp_ = 1000) := by split at e1 <;> omega
  have d2 : (1000 < ll + le ∧ wa = 1000) ∨ (ll + le < 1000 ∧ wa = ll + le) ∨ (ll + le = 1000 ∧ wa = 1000) := by split at e2 <;> omega
  have d3 : (1000 < lh + le ∧ wb = 1000) ∨ (lh + le < 1000 ∧ wb = lh + le) ∨ (lh + le = 1000 ∧ wb = 1000) := by split at e3_ <;> omega
  have d4 : (cl - co < 0 ∧ wc = 0) ∨ (0 < cl - co ∧ wc = cl - co) ∨ (cl - co = 0 ∧ wc = 0) := by split at e4_ <;> omega
  have d5 : (ch - co < 0 ∧ wd = 0) ∨ (0 < ch - co ∧ wd = ch - co) ∨ (ch - co = 0 ∧ wd = 0) := by split at e5 <;> omega
  clear e1 e2 e3_ e4_ e5
  replace d1 := hid d1; replace d2 := hid d2; replace d3 := hid d3; replace d4 := hid d4; replace d5 := hid d5
  refine wp_mono (stZ12 x1 hbb kb.out.1 kb.out.2.1 kb.out.2.2.1 kb.out.2.2.2.1 kb.out.2.2.2.2 (kf.out 0 (by decide)) (kf.out 1 (by decide)) (kf.out 2 (by decide)) (kf.out 3 (by decide)) (kf.out 4 (by decide)) hw.out.1 (by have := hv2.out; omega) rfl d1.out) ?_
  rintro e a' vC ⟨rfl, iI', iJ', iK', iL', iM', iN', iO', rfl, x, n5_, nf_⟩
  replace kb := hid n5_; replace kf := hid nf_; clear n5_ nf_ x1
  have x1 := x; clear x
  go_upto_region 13 with (fail)
  refine name_wp (fun vD hv => ?_)
  have hx : Ext vC vD := by rw [hv]; exact exE
  replace kb := hid (kb.out.ext hx)
  have kf2 : Hid (∀ r, r < 5 → vD.frozen? ⟨B24, r, none⟩ = false) := hid (fun r hr => by rw [hv]; exact kf.out r hr)
  clear kf hv
  have kf := hid kf2.out
  clear kf2
  replace x1 := x1.trans hx
  clear hx
  refine wp_mono (stZ13 x1 hbb kb.out.1 kb.out.2.1 kb.out.2.2.1 kb.out.2.2.2.1 kb.out.2.2.2.2 (kf.out 0 (by decide)) (kf.out 1 (by decide)) (kf.out 2 (by decide)) (kf.out 3 (by decide)) (kf.out 4 (by decide)) hw.out.2.1 (by have := hv2.out; omega) (by have := hv2.out; omega) rfl rfl d2.out d3.out) ?_
  rintro e a' vE ⟨rfl, iP', iQ', iR', iS', iT', iU', iV', iW', iX', iY', iZ', oA', oB', oC', oD', oE', rfl, x, n5_, nf_⟩
  replace kb := hid n5_; replace kf := hid nf_; clear n5_ nf_ x1
  have x1 := x; clear x
  go_upto_region 14 with (fail)
  refine name_wp (fun vF hv => ?_)
  have hx : Ext vE vF := by rw [hv]; exact exE
  replace kb := hid (kb.out.ext hx)
  have kf2 : Hid (∀ r, r < 5 → vF.frozen? ⟨B24, r, none⟩ = false) := hid (fun r hr => by rw [hv]; exact kf.out r hr)
  clear kf hv
  have kf := hid kf2.out
  clear kf2
  replace x1 := x1.trans hx
  clear hx
  refine wp_mono (stZ14 x1 hbb kb.out.1 kb.out.2.1 kb.out.2.2.1 kb.out.2.2.2.1 kb.out.2.2.2.2 (kf.out 0 (by decide)) (kf.out 1 (by decide)) (kf.out 2 (by decide)) (kf.out 3 (by decide)) (kf.out 4 (by decide)) hw.out.2.2 (by have := hv2.out; omega) (by have := hv2.out; omega) rfl rfl d4.out d5.out) ?_
  rintro e a' vG ⟨rfl, oF', oG', oH', oI', oJ', oK', oL', oM', oN', oO', oP', oQ', oR', oS', oT', oU', rfl, x, n5_, nf_⟩
  replace kb := hid n5_; clear n5_ nf_ kf x1
  have x1 := x; clear x
  replace X := hid (X.out.trans x1); replace hM := hid (hM.out.ext x1); replace t := hid (t.out.ext x1); replace mb := hid (mb.out.ext x1)
  replace b17 := hid (b17.out.ext x1); replace hA := hid (hA.out.ext x1)
  clear x1
  go_upto_region 15 with (fail)
  refine name_wp (fun v13 hv => ?_)
  have x1 : Ext vG v13 := by rw [hv]; exact exE
  replace X := hid (X.out.trans x1); replace hM := hid (hM.out.ext x1); replace t := hid (t.out.ext x1); replace mb := hid (mb.out.ext x1)
  replace b17 := hid (b17.out.ext x1); replace hA := hid (hA.out.ext x1); replace kb := hid (kb.out.ext x1)
  clear hv x1
  have hcv := fun i hi r hr => X.out.cell (hcl.out i hi r hr)
  refine wp_mono (stZ15 hln.out n0 n5 hcv kb.out.1 kb.out.2.1 kb.out.2.2.1 kb.out.2.2.2.1 kb.out.2.2.2.2 t.out.1 t.out.2 hLw.out) ?_
  rintro e a' v95 ⟨rfl, Bb, oV', oW', oX', oY', oZ', qA', qB', qC', qD', qE', qF', qG', qH', rfl, x, n0_⟩
  replace X := hid (X.out.trans x); replace hM := hid (hM.out.ext x); replace t := hid (t.out.ext x); replace mb := hid (mb.out.ext x)
  replace b17 := hid (b17.out.ext x); replace hA := hid (hA.out.ext x); replace kb := hid (kb.out.ext x)
  have b25 := hid n0_
  clear x n0_ hcv
  go_upto_region 16 with (fail)
  refine name_wp (fun v14 hv => ?_)
  have x1 : Ext v95 v14 := by rw [hv]; exact exE
  replace X := hid (X.out.trans x1); replace hM := hid (hM.out.ext x1); replace t := hid (t.out.ext x1); replace mb := hid (mb.out.ext x1)
  replace b17 := hid (b17.out.ext x1); replace hA := hid (hA.out.ext x1); replace kb := hid (kb.out.ext x1); replace b25 := hid (b25.out.ext x1)
  clear hv x1
  refine wp_mono (stZ16 b17.out.1 b17.out.2 b25.out.1 b25.out.2) ?_
  rintro e a' v96 ⟨rfl, qI', qJ', qK', qL', qM', qN', qO', qP', qQ', qR', qS', qT', qU', qV', rfl, x⟩
  have XF := hid (X.out.trans x)
  go_wp2_with fail
  go_ret
  exact ⟨rfl, XF.out⟩
end Go.Proofs.Ytpnfhcnnodolbaa
