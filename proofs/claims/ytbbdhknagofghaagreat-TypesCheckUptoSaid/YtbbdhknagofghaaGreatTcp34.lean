import Derived.Test.YtbbdhknagofghaaGreatTcp33
set_option linter.all false
set_option maxHeartbeats 4000000
set_option maxRecDepth 100000
open Go.Proofs.Tryz
namespace Go.Proofs.YtbbdhknagofghaaGreat
open _root_.Go.Calls renaming regrown_of→Bh
open _root_.Go.RowKit.Below renaming refl→Bi
open _root_.List renaming getElem?_eq_getElem→Bk, getElem_mem→Bv, all_eq_true→Bw, take_of_length_le→BB, mem_append→BL, take_succ_eq_append_getElem→BO
open _root_.Go.Sort renaming grow→Bl
open _root_.Nat renaming le_refl→Bm, zero_le→Bo
open _root_.Bool renaming and_eq_true→Bn, true_and→Bt, false_and→Bu
open _root_.Int renaming toNat_natCast→BM, eq_ofNat_of_zero_le→BR
open Go.RowKit
theorem gU {α:Type} {l:List α} {f:α→ByteArray} {s:ByteArray} {k:Nat} (hk:k<l.length) (hc:s∉(l.take k).map f) (he:f l[k]=s):bb (l.map f) s=(k:Int):=
 ma (by simpa using hk) (by rwa [←List.map_take]) (by simpa using he)
theorem eV {α:Type} {l:List α} {f:α→ByteArray} {s:ByteArray} {k:Nat} (hk:k<l.length) (hc:s∉(l.take k).map f) (he:¬f l[k]=s):s∉(l.take (k+1)).map f:=by
 rw [BO hk,List.map_append]
 intro h
 rcases BL.1 h with h|h
 ·exact hc h
 ·simp at h;exact he h.symm
theorem gV {α:Type} {l:List α} {f:α→ByteArray} {s:ByteArray} {k:Nat} (hk:k≤l.length) (hn:¬k<l.length) (hc:s∉(l.take k).map f):bb (l.map f) s= -1:=
 mb (by rwa [BB (by omega)] at hc)
theorem fy (l:List Fd) (A:Option Addr) (cap:Nat) (s:ByteArray) (w:World) {B:Nat} (h:Sl 2 sq w B A l):
  Calls prog 182 #[.slice A l.length cap,.string s] w fun e w'=>e=.returned (.int .i64 (cw l s))∧w=w':=by
 have hl:=h.len
 have hS:=aa h
 clear h
 go_enter func182,ntmps182
 go_wp2
 go_loop [5] (fun i=>∃ k:Nat,k≤l.length∧i=.int .i64 k∧s∉(l.take k).map Prod.fst) (fun i=>l.length-(intOf i).toNat)
 case atStart=>exact ⟨0,Bo _,rfl,by simp⟩
 case round=>
  obtain ⟨k,hk,rfl,hc⟩:=hrel
  by_cases hlt:k<l.length
  ·obtain ⟨b,o,ecs,hA,hb,hel,hcell,hr⟩:=hS.out.2 k _ (Bk hlt)
   subst hA
   have hltz:(k:Int)<(l.length:Int):=by omega
   obtain ⟨rfl,-⟩:=hr
   have x0:w.cell? ⟨b,o+k*2,none⟩=some (.string l[k].1):=by simpa using hcell 0 _ rfl
   clear hcell hel
   by_cases he:Prod.fst l[k]=s
   ·have ht:=gC he
    have hq:=aa (gU hlt hc he)
    clear he hc
    go_wp2
    go_ret
    exact ⟨ag hq.out.symm,rfl⟩
   ·have ht:=gD he
    have hq:=aa (eV hlt hc he)
    clear he hc
    go_wp2
    go_round
    case rel=>exact ⟨k+1,by omega,by go_num,hq.out⟩
    case measure=>simp [intOf];omega
  ·have hq:=aa (gV hk hlt hc)
   clear hc
   go_wp2
   
   go_ret
   exact ⟨ag hq.out.symm,rfl⟩
theorem lx (l:List ByteArray) (A:Option Addr) (cap:Nat) (s:ByteArray) (w:World) {B:Nat} (h:Sl 1 iy w B A l):
  Calls prog 177 #[.slice A l.length cap,.string s] w fun e w'=>e=.returned (.int .i64 (bb l s))∧w=w':=by
 have hl:=h.len
 go_enter func177,ntmps177
 go_wp2
 go_loop [5] (fun i=>∃ k:Nat,k≤l.length∧i=.int .i64 k∧s∉l.take k) (fun i=>l.length-(intOf i).toNat)
 case atStart=>exact ⟨0,Bo _,rfl,by simp⟩
 case round=>
  obtain ⟨k,hk,rfl,hc⟩:=hrel
  by_cases hlt:k<l.length
  ·obtain ⟨b,o,rfl,hb,hcell,-⟩:=h.str hlt
   clear h
   by_cases he:l[k]=s
   ·have ht:=gC he
    have hv:=aa (ma hlt hc he)
    clear he
    go_wp2
    go_ret
    exact ⟨ag hv.out.symm,rfl⟩
   ·have ht:=gD he
    have hv:=aa (dQ hlt hc he)
    clear he
    go_wp2
    go_round
    case rel=>exact ⟨k+1,by omega,by go_num,hv.out⟩
    case measure=>simp [intOf];omega
  ·have hv:=aa (mb (eN hk hlt hc))
   go_wp2
   go_ret
   exact ⟨ag hv.out.symm,rfl⟩
theorem cC (w:World) (A1 A2 A3 A4 A5 A6 A7:Option Addr) (p:Pg) (c1 c2 c3 c4 c5 c6 c7:Nat) (s:ByteArray) {B:Nat} (hB:B≤w.heap.size) (h:bu w B A1 A2 A3 A4 A5 A6 A7 p):
  Calls prog 115 #[.agg (aq p A1 A2 A3 A4 A5 A6 A7 c1 c2 c3 c4 c5 c6 c7),.string s] w fun e w'=>e=.returned (.int .i64 (ap p s))∧Below w.heap.size w w':=by
 unfold aq
 obtain ⟨wa,hwa,hsa,hba,hca,-⟩:=al w (aq p A1 A2 A3 A4 A5 A6 A7 c1 c2 c3 c4 c5 c6 c7) 30
 obtain ⟨y0,y1,y2,y3,y4,y5,y6⟩:=aF (w:=wa) (a:=w.heap.size) fun i=>hca i
 have hl:=h.headers.len
 have hS:=aa (h.headers.below fS (hba.mono hB))
 have hw:=aa hba
 clear hca hba h
 go_enter func115,ntmps115
 go_wp2
 go_loop [5] (fun i=>∃ k:Nat,k≤p.headers.length∧i=.int .i64 k∧s∉(p.headers.take k).map Hd.name) (fun i=>p.headers.length-(intOf i).toNat)
 case atStart=>exact ⟨0,Bo _,rfl,by simp⟩
 case round=>
  obtain ⟨k,hk,rfl,hc⟩:=hrel
  by_cases hlt:k<p.headers.length
  ·obtain ⟨b,o,ecs,hA,hb,hel,hcell,hr⟩:=hS.out.2 k _ (Bk hlt)
   subst hA
   have hltz:(k:Int)<(p.headers.length:Int):=by omega
   obtain ⟨A',c',rfl,-⟩:=hr
   have x0:wa.cell? ⟨b,o+k*2,none⟩=some (.string (Hd.name p.headers[k])):=by simpa using hcell 0 _ rfl
   clear hcell hel
   by_cases he:Hd.name p.headers[k]=s
   ·have ht:=gC he
    have hq:=aa (gU hlt hc he)
    clear he hc
    go_wp2
    go_ret
    exact ⟨ag hq.out.symm,hw.out⟩
   ·have ht:=gD he
    have hq:=aa (eV hlt hc he)
    clear he hc
    go_wp2
    go_round
    case rel=>exact ⟨k+1,by omega,by go_num,hq.out⟩
    case measure=>simp [intOf];omega
  ·have hq:=aa (gV hk hlt hc)
   clear hc
   go_wp2
   
   go_ret
   exact ⟨ag hq.out.symm,hw.out⟩
theorem eK (w:World) (A1 A2 A3 A4 A5 A6 A7:Option Addr) (p:Pg) (c1 c2 c3 c4 c5 c6 c7:Nat) (s:ByteArray) {B:Nat} (hB:B≤w.heap.size) (h:bu w B A1 A2 A3 A4 A5 A6 A7 p):
  Calls prog 44 #[.agg (aq p A1 A2 A3 A4 A5 A6 A7 c1 c2 c3 c4 c5 c6 c7),.string s] w fun e w'=>e=.returned (.int .i64 (bz p s))∧Below w.heap.size w w':=by
 unfold aq
 obtain ⟨wa,hwa,hsa,hba,hca,-⟩:=al w (aq p A1 A2 A3 A4 A5 A6 A7 c1 c2 c3 c4 c5 c6 c7) 30
 obtain ⟨y0,y1,y2,y3,y4,y5,y6⟩:=aF (w:=wa) (a:=w.heap.size) fun i=>hca i
 have hl:=h.actions.len
 have hS:=aa (h.actions.below fT (hba.mono hB))
 have hw:=aa hba
 clear hca hba h
 go_enter func44,ntmps44
 go_wp2
 go_loop [5] (fun i=>∃ k:Nat,k≤p.actions.length∧i=.int .i64 k∧s∉(p.actions.take k).map Ac.name) (fun i=>p.actions.length-(intOf i).toNat)
 case atStart=>exact ⟨0,Bo _,rfl,by simp⟩
 case round=>
  obtain ⟨k,hk,rfl,hc⟩:=hrel
  by_cases hlt:k<p.actions.length
  ·obtain ⟨b,o,ecs,hA,hb,hel,hcell,hr⟩:=hS.out.2 k _ (Bk hlt)
   subst hA
   have hltz:(k:Int)<(p.actions.length:Int):=by omega
   obtain ⟨B1,d1,B2,d2,rfl,-⟩:=hr
   have x0:wa.cell? ⟨b,o+k*3,none⟩=some (.string (Ac.name p.actions[k])):=by simpa using hcell 0 _ rfl
   clear hcell hel
   by_cases he:Ac.name p.actions[k]=s
   ·have ht:=gC he
    have hq:=aa (gU hlt hc he)
    clear he hc
    go_wp2
    go_ret
    exact ⟨ag hq.out.symm,hw.out⟩
   ·have ht:=gD he
    have hq:=aa (eV hlt hc he)
    clear he hc
    go_wp2
    go_round
    case rel=>exact ⟨k+1,by omega,by go_num,hq.out⟩
    case measure=>simp [intOf];omega
  ·have hq:=aa (gV hk hlt hc)
   clear hc
   go_wp2
   
   go_ret
   exact ⟨ag hq.out.symm,hw.out⟩
theorem ly (w:World) (A1 A2 A3 A4 A5 A6 A7:Option Addr) (p:Pg) (c1 c2 c3 c4 c5 c6 c7:Nat) (s:ByteArray) {B:Nat} (hB:B≤w.heap.size) (h:bu w B A1 A2 A3 A4 A5 A6 A7 p):
  Calls prog 176 #[.agg (aq p A1 A2 A3 A4 A5 A6 A7 c1 c2 c3 c4 c5 c6 c7),.string s] w fun e w'=>e=.returned (.int .i64 (eE p s))∧Below w.heap.size w w':=by
 unfold aq
 obtain ⟨wa,hwa,hsa,hba,hca,-⟩:=al w (aq p A1 A2 A3 A4 A5 A6 A7 c1 c2 c3 c4 c5 c6 c7) 30
 obtain ⟨y0,y1,y2,y3,y4,y5,y6⟩:=aF (w:=wa) (a:=w.heap.size) fun i=>hca i
 have hl:=h.tables.len
 have hS:=aa (h.tables.below gF (hba.mono hB))
 have hw:=aa hba
 clear hca hba h
 go_enter func176,ntmps176
 go_wp2
 go_loop [5] (fun i=>∃ k:Nat,k≤p.tables.length∧i=.int .i64 k∧s∉(p.tables.take k).map Ta.name) (fun i=>p.tables.length-(intOf i).toNat)
 case atStart=>exact ⟨0,Bo _,rfl,by simp⟩
 case round=>
  obtain ⟨k,hk,rfl,hc⟩:=hrel
  by_cases hlt:k<p.tables.length
  ·obtain ⟨b,o,ecs,hA,hb,hel,hcell,hr⟩:=hS.out.2 k _ (Bk hlt)
   subst hA
   have hltz:(k:Int)<(p.tables.length:Int):=by omega
   obtain ⟨B1,d1,B2,d2,B3,d3,rfl,-⟩:=hr
   have x0:wa.cell? ⟨b,o+k*5,none⟩=some (.string (Ta.name p.tables[k])):=by simpa using hcell 0 _ rfl
   clear hcell hel
   by_cases he:Ta.name p.tables[k]=s
   ·have ht:=gC he
    have hq:=aa (gU hlt hc he)
    clear he hc
    go_wp2
    go_ret
    exact ⟨ag hq.out.symm,hw.out⟩
   ·have ht:=gD he
    have hq:=aa (eV hlt hc he)
    clear he hc
    go_wp2
    go_round
    case rel=>exact ⟨k+1,by omega,by go_num,hq.out⟩
    case measure=>simp [intOf];omega
  ·have hq:=aa (gV hk hlt hc)
   clear hc
   go_wp2
   
   go_ret
   exact ⟨ag hq.out.symm,hw.out⟩
theorem gW (w:World) (A1 A2 A3 A4 A5 A6 A7:Option Addr) (p:Pg) (c1 c2 c3 c4 c5 c6 c7:Nat) (s:ByteArray) {B:Nat} (hB:B≤w.heap.size) (h:bu w B A1 A2 A3 A4 A5 A6 A7 p):
  Calls prog 174 #[.agg (aq p A1 A2 A3 A4 A5 A6 A7 c1 c2 c3 c4 c5 c6 c7),.string s] w fun e w'=>e=.returned (.tuple #[.int .i64 (co p s),.bool (cA p s)])∧Below w.heap.size w w':=by
 unfold aq
 obtain ⟨wa,hwa,hsa,hba,hca,-⟩:=al w (aq p A1 A2 A3 A4 A5 A6 A7 c1 c2 c3 c4 c5 c6 c7) 30
 obtain ⟨y0,y1,y2,y3,y4,y5,y6⟩:=aF (w:=wa) (a:=w.heap.size) fun i=>hca i
 have hl:=h.states.len
 have hS:=aa (h.states.below gE (hba.mono hB))
 have hw:=aa hba
 clear hca hba h
 go_enter func174,ntmps174
 by_cases h1:s=pd
 ·have e1:=fi.1 h1
  have hv:=aa (show co p s= -1∧cA p s=true from by simp [co,cA,h1])
  clear h1
  go_wp2
  go_ret2
  exact ⟨iT hv.out.1.symm hv.out.2.symm,hw.out⟩
 ·have e1:(s.toList== [97,99,99,101,112,116])=false:=by rw [beq_eq_false_iff_ne];exact fun h=>h1 (fi.2 h)
  by_cases h2:s=pf
  ·have e2:=fj.1 h2
   have hv:=aa (show co p s= -2∧cA p s=true from by simp [co,cA,h2];decide)
   clear h1 h2
   go_wp2
   go_ret2
   exact ⟨iT hv.out.1.symm hv.out.2.symm,hw.out⟩
  ·have e2:(s.toList== [114,101,106,101,99,116])=false:=by rw [beq_eq_false_iff_ne];exact fun h=>h2 (fj.2 h)
   have hv:=aa (show co p s=max (bb (p.states.map Sa.name) s) 0∧cA p s=decide (0≤bb (p.states.map Sa.name) s) from ⟨by simp [co,iK,h1,h2],by unfold cA iK;rw [if_neg h1,if_neg h2]⟩)
   clear h1 h2
   go_wp2
   go_loop [6] (fun i=>∃ k:Nat,k≤p.states.length∧i=.int .i64 k∧s∉(p.states.take k).map Sa.name) (fun i=>p.states.length-(intOf i).toNat)
   case atStart=>exact ⟨0,Bo _,rfl,by simp⟩
   case round=>
    obtain ⟨k,hk,rfl,hc⟩:=hrel
    by_cases hlt:k<p.states.length
    ·obtain ⟨b,o,ecs,hA,hb,hel,hcell,hr⟩:=hS.out.2 k _ (Bk hlt)
     subst hA
     have hltz:(k:Int)<(p.states.length:Int):=by omega
     obtain ⟨B1,d1,B2,d2,B3,d3,rfl,-⟩:=hr
     have x0:wa.cell? ⟨b,o+k*5,none⟩=some (.string (Sa.name p.states[k])):=by simpa using hcell 0 _ rfl
     clear hcell hel
     by_cases he:Sa.name p.states[k]=s
     ·have ht:=gC he
      have hq:=aa (gU hlt hc he)
      clear he hc
      go_wp2
      go_ret2
      exact ⟨iT (by rw [hv.out.1,hq.out];omega) (by rw [hv.out.2,hq.out];simp),hw.out⟩
     ·have ht:=gD he
      have hq:=aa (eV hlt hc he)
      clear he hc
      go_wp2
      go_round
      case rel=>exact ⟨k+1,by omega,by go_num,hq.out⟩
      case measure=>simp [intOf];omega
    ·have hq:=aa (gV hk hlt hc)
     clear hc
     go_wp2
     
     go_ret2
     exact ⟨iT (by rw [hv.out.1,hq.out];rfl) (by rw [hv.out.2,hq.out];rfl),hw.out⟩
theorem eW (w:World) (A1 A2 A3 A4 A5 A6 A7:Option Addr) (p:Pg) (c1 c2 c3 c4 c5 c6 c7:Nat) (s:ByteArray) {B:Nat} (hB:B≤w.heap.size) (h:bu w B A1 A2 A3 A4 A5 A6 A7 p):
  Calls prog 114 #[.agg (aq p A1 A2 A3 A4 A5 A6 A7 c1 c2 c3 c4 c5 c6 c7),.string s] w fun e w'=>e=.returned (.int .i64 (ct p s))∧Below w.heap.size w w':=by
 unfold aq
 obtain ⟨wa,hwa,hsa,hba,hca,-⟩:=al w (aq p A1 A2 A3 A4 A5 A6 A7 c1 c2 c3 c4 c5 c6 c7) 30
 obtain ⟨y0,y1,y2,y3,y4,y5,y6⟩:=aF (w:=wa) (a:=w.heap.size) fun i=>hca i
 have hl:=h.metas.len
 have hS:=aa (h.metas.below bA (hba.mono hB))
 have hw:=aa hba
 clear hca hba h
 go_enter func114,ntmps114
 have hX:=aa (fun c=>fy p.metas A2 c s wa hS.out)
 go_wp2_with (go_at_call 182;refine (hX.out _).mono ?_;rintro e w1 ⟨rfl,rfl⟩)
 go_ret
 exact ⟨rfl,hw.out⟩
theorem dF (w:World) (A1 A2 A3 A4 A5 A6 A7:Option Addr) (p:Pg) (c1 c2 c3 c4 c5 c6 c7:Nat) (n:Int) (s:ByteArray) {B:Nat} (hB:B≤w.heap.size) (h:bu w B A1 A2 A3 A4 A5 A6 A7 p):
  Calls prog 116 #[.agg (aq p A1 A2 A3 A4 A5 A6 A7 c1 c2 c3 c4 c5 c6 c7),.int .i64 n,.string s] w fun e w'=>e=.returned (.int .i64 (aJ p n s))∧Below w.heap.size w w':=by
 unfold aq
 obtain ⟨wa,hwa,hsa,hba,hca,-⟩:=al w (aq p A1 A2 A3 A4 A5 A6 A7 c1 c2 c3 c4 c5 c6 c7) 30
 obtain ⟨y0,y1,y2,y3,y4,y5,y6⟩:=aF (w:=wa) (a:=w.heap.size) fun i=>hca i
 have hl:=h.headers.len
 have hS:=aa (h.headers.below fS (hba.mono hB))
 have hw:=aa hba
 clear hca hba h
 go_enter func116,ntmps116
 by_cases h1:n<0
 ·have hv:=aa (show aJ p n s= -1 from by simp [aJ,h1])
  go_wp2
  go_ret
  exact ⟨ag hv.out.symm,hw.out⟩
 ·have h2:0≤n:=by omega
  obtain ⟨k,rfl⟩:=BR h2
  by_cases h3:k<p.headers.length
  ·have h4:(k:Int)<(p.headers.length:Int):=by omega
   have h5:¬(p.headers.length:Int)≤(k:Int):=by omega
   obtain ⟨b,o,ecs,hA,hb,hel,hcell,hr⟩:=hS.out.2 k _ (Bk h3)
   subst hA
   obtain ⟨FA,fc,rfl,hn,hF⟩:=hr
   have hlF:=hF.len
   have x0:wa.cell? ⟨b,o+k*2,none⟩=some (.string p.headers[k].name):=by simpa using hcell 0 _ rfl
   have x1:wa.cell? ⟨b,o+k*2+1,none⟩=some (.slice FA p.headers[k].fields.length fc):=hcell 1 _ rfl
   have hv:=aa (show aJ p k s=cw p.headers[k].fields s from by simp only [aJ,if_neg h1,BM,Bk h3,Option.elim])
   have hX:=aa (fun c=>fy p.headers[k].fields FA c s wa hF)
   generalize cw p.headers[k].fields s=z at hv hX
   clear hcell hF hel h1
   go_wp2_with (go_at_call 182;refine (hX.out _).mono ?_;rintro e w1 ⟨rfl,rfl⟩)
   go_ret
   exact ⟨ag hv.out.symm,hw.out⟩
  ·have h4:(p.headers.length:Int)≤(k:Int):=by omega
   have h5:¬(k:Int)<(p.headers.length:Int):=by omega
   have hv:=aa (show aJ p k s= -1 from by
    have e:p.headers[k]? =none:=List.getElem?_eq_none (by omega)
    simp only [aJ,if_neg h1,BM,e,Option.elim])
   clear h1
   go_wp2
   go_ret
   exact ⟨ag hv.out.symm,hw.out⟩
theorem gX (w:World) (A1 A2 A3 A4 A5 A6 A7:Option Addr) (p:Pg) (c1 c2 c3 c4 c5 c6 c7:Nat) (n:Int) (s:ByteArray) {B:Nat} (hB:B≤w.heap.size) (h:bu w B A1 A2 A3 A4 A5 A6 A7 p):
  Calls prog 175 #[.agg (aq p A1 A2 A3 A4 A5 A6 A7 c1 c2 c3 c4 c5 c6 c7),.int .i64 n,.string s] w fun e w'=>e=.returned (.int .i64 (aL p n s))∧Below w.heap.size w w':=by
 unfold aq
 obtain ⟨wa,hwa,hsa,hba,hca,-⟩:=al w (aq p A1 A2 A3 A4 A5 A6 A7 c1 c2 c3 c4 c5 c6 c7) 30
 obtain ⟨y0,y1,y2,y3,y4,y5,y6⟩:=aF (w:=wa) (a:=w.heap.size) fun i=>hca i
 have hl:=h.actions.len
 have hS:=aa (h.actions.below fT (hba.mono hB))
 have hw:=aa hba
 clear hca hba h
 go_enter func175,ntmps175
 by_cases h1:n<0
 ·have hv:=aa (show aL p n s= -1 from by simp [aL,h1])
  go_wp2
  go_ret
  exact ⟨ag hv.out.symm,hw.out⟩
 ·have h2:0≤n:=by omega
  obtain ⟨k,rfl⟩:=BR h2
  by_cases h3:k<p.actions.length
  ·have h4:(k:Int)<(p.actions.length:Int):=by omega
   have h5:¬(p.actions.length:Int)≤(k:Int):=by omega
   obtain ⟨b,o,ecs,hA,hb,hel,hcell,hr⟩:=hS.out.2 k _ (Bk h3)
   subst hA
   obtain ⟨FA,fc,FB,fd,rfl,hn,hF,hBd⟩:=hr
   have hlF:=hF.len
   have hlB:=hBd.len
   obtain ⟨x0,x1,x2⟩:=dl hcell
   clear hBd
   have hv:=aa (show aL p k s=cw p.actions[k].params s from by simp only [aL,if_neg h1,BM,Bk h3,Option.elim])
   have hX:=aa (fun c=>fy p.actions[k].params FA c s wa hF)
   generalize cw p.actions[k].params s=z at hv hX
   clear hcell hF hel h1
   go_wp2_with (go_at_call 182;refine (hX.out _).mono ?_;rintro e w1 ⟨rfl,rfl⟩)
   go_ret
   exact ⟨ag hv.out.symm,hw.out⟩
  ·have h4:(p.actions.length:Int)≤(k:Int):=by omega
   have h5:¬(k:Int)<(p.actions.length:Int):=by omega
   have hv:=aa (show aL p k s= -1 from by
    have e:p.actions[k]? =none:=List.getElem?_eq_none (by omega)
    simp only [aL,if_neg h1,BM,e,Option.elim])
   clear h1
   go_wp2
   go_ret
   exact ⟨ag hv.out.symm,hw.out⟩
theorem tv (h:Hd) (A:Option Addr) (cap:Nat) (w:World) {B:Nat} (hB:B≤w.heap.size) (hF:Sl 2 sq w B A h.fields) (hm:iJ h=true):
  Calls prog 178 #[.agg #[.string h.name,.slice A h.fields.length cap]] w fun e w'=>e=.returned (.int .i64 (dO h))∧Below w.heap.size w w':=by
 obtain ⟨wb,hwb,hsz,hw,hcb,-⟩:=al w #[.string h.name,.slice A h.fields.length cap] 66
 have y0:wb.cell? ⟨w.heap.size,0,none⟩=some (.string h.name):=hcb 0
 have y1:wb.cell? ⟨w.heap.size,1,none⟩=some (.slice A h.fields.length cap):=hcb 1
 have hl:=hF.len
 have hS:=aa (hF.below bA (hw.mono hB))
 simp only [iJ,Bn,decide_eq_true_eq] at hm
 have hle:=hm.1.2.2
 have hws:∀ f∈h.fields,1≤f.2∧f.2≤128:=fun f hf=>by
  have:=Bw.1 hm.2 f hf
  simp only [gB,cE,Bn,decide_eq_true_eq] at this
  exact this.2
 have hsum:∀ k,0≤dn (h.fields.take k)∧dn (h.fields.take k)≤2048:=fun k=>by
  have:=gM (l:=h.fields.take k) fun f hf=>hws f (List.mem_of_mem_take hf)
  rw [List.length_take] at this
  omega
 have hws':=aa hws
 have hsum':=aa hsum
 have hv:=aa (show dO h=dn h.fields from rfl)
 replace hw:=aa hw
 clear hcb hm hws hsum hF
 go_enter func178,ntmps178
 go_wp2
 go_loop [3,4] (fun n i=>∃ k:Nat,k≤h.fields.length∧i=.int .i64 k∧n=.int .i64 (dn (h.fields.take k))) (fun _ i=>h.fields.length-(intOf i).toNat)
 case atStart=>exact ⟨0,Bo _,rfl,by simp [dn]⟩
 case round=>
  obtain ⟨k,hk,rfl,rfl⟩:=hrel
  by_cases hlt:k<h.fields.length
  ·obtain ⟨b,o,ecs,hA,hb,hel,hcell,rfl,hz,hi⟩:=hS.out.2 k _ (Bk hlt)
   subst hA
   have hltz:(k:Int)<(h.fields.length:Int):=by omega
   have x0:wb.cell? ⟨b,o+k*2,none⟩=some (.string h.fields[k].1):=by simpa using hcell 0 _ rfl
   have x1:wb.cell? ⟨b,o+k*2+1,none⟩=some (.int .i64 h.fields[k].2):=hcell 1 _ rfl
   have ht:=aa (mE hlt)
   obtain ⟨s1,s2⟩:=hsum'.out k
   obtain ⟨t1,t2⟩:=hws'.out _ (Bv hlt)
   clear hcell
   generalize dn (h.fields.take k)=z at*
   go_wp2
   go_round
   case rel=>exact ⟨k+1,by omega,by go_num,by rw [ht.out]⟩
   case measure=>simp [intOf];omega
  ·have he:h.fields.take k=h.fields:=BB (by omega)
   go_wp2
   go_ret
   exact ⟨ag (by first|rw [hv.out]|rw [hv.out,he]),hw.out⟩
theorem gY (A1 A2 A3 A4 A5 A6 A7:Option Addr) (p:Pg) (c1 c2 c3 c4 c5 c6 c7:Nat) (act:Int) (B:Nat) (e:Ex):∀ (cs:List Value) (w:World),B≤w.heap.size→bu w B A1 A2 A3 A4 A5 A6 A7 p→dL w B cs e→
  Calls prog 107 #[.agg (aq p A1 A2 A3 A4 A5 A6 A7 c1 c2 c3 c4 c5 c6 c7),.int .i64 act,.agg cs.toArray] w fun r w'=>r=.returned (.bool (aU p act e))∧Below w.heap.size w w':=by
 unfold aq
 induction e using Ex.ind with
 |h op lit head name hi lo args ih=>
  intro cs w hB hP h
  obtain ⟨A,cap,rfl,-,-,-,-,-,-,hs⟩:=RE.inv h
  have hl:=hs.len
  replace ih:=aa ih
  clear h
  show Calls _ _ #[.agg #[.slice A1 p.headers.length c1,.slice A2 p.metas.length c2,.slice A3 p.states.length c3,.slice A4 p.actions.length c4,.slice A5 p.tables.length c5,.slice A6 p.control.length c6,.slice A7 p.emit.length c7],.int .i64 act,.agg #[.int .u8 op,.int .i64 lit.1,.int .u64 lit.2.1,.int .u64 lit.2.2,.string head,.string name,.int .i64 hi,.int .i64 lo,.slice A args.length cap]] _ _
  obtain ⟨wa,hwa,hsa,hba,hca,-⟩:=al w (aq p A1 A2 A3 A4 A5 A6 A7 c1 c2 c3 c4 c5 c6 c7) 30
  obtain ⟨wb,hwb,hsb,hbb,hcb,-⟩:=al wa (aO op lit head name hi lo A args.length cap) 45
  have hw:=hba.trans (hbb.mono (by omega))
  obtain ⟨y0,y1,y2,y3,y4,y5,y6⟩:=aF (w:=wa) (a:=w.heap.size) fun i=>hca i
  have q:∀ i,wb.cell? ⟨w.heap.size,i,none⟩=wa.cell? ⟨w.heap.size,i,none⟩:=fun i=>hbb.cell (p:=⟨w.heap.size,i,none⟩) (by show w.heap.size<_;omega)
  obtain ⟨z0,z1,z2,z3,z4,z5,z6⟩:=aF (w:=wb) (a:=w.heap.size) fun i=>(q _).trans<|hca i
  have e0:wb.cell? ⟨w.heap.size+1,0,none⟩=some (.int .u8 op):=by have:=hcb 0;rw [hsa] at this;exact this
  have e4:wb.cell? ⟨w.heap.size+1,4,none⟩=some (.string head):=by have:=hcb 4;rw [hsa] at this;exact this
  have e5:wb.cell? ⟨w.heap.size+1,5,none⟩=some (.string name):=by have:=hcb 5;rw [hsa] at this;exact this
  have e8:wb.cell? ⟨w.heap.size+1,8,none⟩=some (.slice A args.length cap):=by have:=hcb 8;rw [hsa] at this;exact this
  have hS:=aa (hs.below ai (hw.mono hB))
  have hP2:=aa (hP.below (hw.mono hB))
  have hv:=aa (show aU p act (.mk op lit head name hi lo args)=(ep p act op head name&&args.all (aU p act)) from by simp only [aU,iL])
  have hb0:Below wb.heap.size wb wb:=Bi _ _
  have hBk:=aa (show ∀ W,Below wb.heap.size wb W→Below w.heap.size w W from fun W hb=>hw.trans (hb.mono (by omega)))
  have hl1:w.heap.size<wb.heap.size:=by omega
  have hl2:w.heap.size+1<wb.heap.size:=by omega
  have hBw:B≤wb.heap.size:=by omega
  clear hca hcb hs hP q y0 y1 y2 y3 y4 y5 y6 hba hbb hw
  replace hsb:=aa hsb
  have qH:=aa (fun (s:ByteArray) (W:World) (hb:Below wb.heap.size wb W)=>(cC W A1 A2 A3 A4 A5 A6 A7 p c1 c2 c3 c4 c5 c6 c7 s (by have:=hb.size;omega) (hP2.out.below (hb.mono hBw))).mono (fun e w' h=>(⟨h.1,hb.trans (h.2.mono hb.size)⟩:e=_∧Below wb.heap.size wb w')))
  have qF:=aa (fun (n:Int) (s:ByteArray) (W:World) (hb:Below wb.heap.size wb W)=>(dF W A1 A2 A3 A4 A5 A6 A7 p c1 c2 c3 c4 c5 c6 c7 n s (by have:=hb.size;omega) (hP2.out.below (hb.mono hBw))).mono (fun e w' h=>(⟨h.1,hb.trans (h.2.mono hb.size)⟩:e=_∧Below wb.heap.size wb w')))
  have qM:=aa (eW wb A1 A2 A3 A4 A5 A6 A7 p c1 c2 c3 c4 c5 c6 c7 name hBw hP2.out)
  have qP:=aa (gX wb A1 A2 A3 A4 A5 A6 A7 p c1 c2 c3 c4 c5 c6 c7 act name hBw hP2.out)
  go_enter func107,ntmps107
  go_upto_block 0 with (fail)
  go_cut [] (fun wx=>ep p act op head name=true∧Hid (Below wb.heap.size wb wx))
  case first=>
   have hg:=ax hb0 (Bm _)
   by_cases h2:op=2
   ·have o2:=aa (show ep p act op head name=decide (0≤aJ p (ap p head) name) from by simp [ep,h2])
    have hH:∀ d os,Hid (Calls prog 115 #[.agg (aq p A1 A2 A3 A4 A5 A6 A7 c1 c2 c3 c4 c5 c6 c7),.string head] (Bl (redrawn wb d) os) _):=fun d os=>aa (cC _ A1 A2 A3 A4 A5 A6 A7 p c1 c2 c3 c4 c5 c6 c7 head (by have:=cH wb d os;omega) (hP2.out.below ((aA hb0 (by omega) d os).mono (by omega))))
    have hF:∀ d os,Hid (Calls prog 116 #[.agg (aq p A1 A2 A3 A4 A5 A6 A7 c1 c2 c3 c4 c5 c6 c7),.int .i64 (ap p head),.string name] (Bl (redrawn wb d) os) _):=fun d os=>aa (dF _ A1 A2 A3 A4 A5 A6 A7 p c1 c2 c3 c4 c5 c6 c7 (ap p head) name (by have:=cH wb d os;omega) (hP2.out.below ((aA hb0 (by omega) d os).mono (by omega))))
    clear qH qF qM qP
    generalize aJ p (ap p head) name=z at o2 hF
    generalize ap p head=y at hH hF
    subst h2
    by_cases hz:z<0
    ·replace hv:=aa (hv.out.trans (show _=false from by rw [o2.out,decide_eq_false (by omega),Bu]))
     go_wp2_with fail
     refine cD ?_
     repeat (any_goals (first|go_big_quiet_step (first|(go_at_call 115;with_reducible exact Bh (hH _ _).out)|(go_at_call 116;with_reducible exact Bh (hF _ _).out))|quiet_step (first|(go_at_call 115;with_reducible exact Bh (hH _ _).out)|(go_at_call 116;with_reducible exact Bh (hF _ _).out))))
     refine wpQuiet_nil ?_
     intro w1 hw1
     replace hw1:=ac hw1
     go_wp2
     go_ret
     exact ⟨ah hv.out.symm,hBk.out _ hw1⟩
    ·have hz0:=aa (show decide (0≤z)=true from decide_eq_true (by omega))
     clear hv
     go_wp2_with fail
     refine cD ?_
     repeat (any_goals (first|go_big_quiet_step (first|(go_at_call 115;with_reducible exact Bh (hH _ _).out)|(go_at_call 116;with_reducible exact Bh (hF _ _).out))|quiet_step (first|(go_at_call 115;with_reducible exact Bh (hH _ _).out)|(go_at_call 116;with_reducible exact Bh (hF _ _).out))))
     refine wpQuiet_nil ?_
     intro w1 hw1
     replace hw1:=ac hw1
     go_wp2
     go_meet
     exact ⟨o2.out.trans hz0.out,aa hw1⟩
   ·by_cases h3:op=3
    ·have o2:=aa (show ep p act op head name=decide (0≤ct p name) from by simp [ep,h3])
     clear qH qF qP h2
     subst h3
     generalize ct p name=z at o2 qM
     by_cases hz:z<0
     ·replace hv:=aa (hv.out.trans (show _=false from by rw [o2.out,decide_eq_false (by omega),Bu]))
      go_wp2_with (go_at_call 114;refine qM.out.mono ?_;rintro e w1 ⟨rfl,hw1⟩)
      go_ret
      exact ⟨ah hv.out.symm,hBk.out _ hw1⟩
     ·have hz0:=aa (show decide (0≤z)=true from decide_eq_true (by omega))
      clear hv
      go_wp2_with (go_at_call 114;refine qM.out.mono ?_;rintro e w1 ⟨rfl,hw1⟩)
      go_meet
      exact ⟨o2.out.trans hz0.out,aa hw1⟩
    ·by_cases h4:op=4
     ·have o2:=aa (show ep p act op head name=decide (0≤aL p act name) from by simp [ep,h4])
      clear qH qF qM h2 h3
      subst h4
      generalize aL p act name=z at o2 qP
      by_cases hz:z<0
      ·replace hv:=aa (hv.out.trans (show _=false from by rw [o2.out,decide_eq_false (by omega),Bu]))
       go_wp2_with (go_at_call 175;refine qP.out.mono ?_;rintro e w1 ⟨rfl,hw1⟩)
       go_ret
       exact ⟨ah hv.out.symm,hBk.out _ hw1⟩
      ·have hz0:=aa (show decide (0≤z)=true from decide_eq_true (by omega))
       clear hv
       go_wp2_with (go_at_call 175;refine qP.out.mono ?_;rintro e w1 ⟨rfl,hw1⟩)
       go_meet
       exact ⟨o2.out.trans hz0.out,aa hw1⟩
     ·by_cases h6:op=6
      ·have o2:=aa (show ep p act op head name=decide (0≤ap p head) from by simp [ep,h6])
       have hX:=aa (qH.out head wb hb0)
       clear qH qF qM qP h2 h3 h4
       subst h6
       generalize ap p head=z at o2 hX
       by_cases hz:z<0
       ·replace hv:=aa (hv.out.trans (show _=false from by rw [o2.out,decide_eq_false (by omega),Bu]))
        go_wp2_with (go_at_call 115;refine hX.out.mono ?_;rintro e w1 ⟨rfl,hw1⟩)
        go_ret
        exact ⟨ah hv.out.symm,hBk.out _ hw1⟩
       ·have hz0:=aa (show decide (0≤z)=true from decide_eq_true (by omega))
        clear hv
        go_wp2_with (go_at_call 115;refine hX.out.mono ?_;rintro e w1 ⟨rfl,hw1⟩)
        go_meet
        exact ⟨o2.out.trans hz0.out,aa hw1⟩
      ·have o2:=aa (show ep p act op head name=true from by simp [ep,h2,h3,h4,h6])
       clear hv qH qF qM qP
       go_wp2
       go_meet
       exact ⟨o2.out,aa hb0⟩
  case rest=>
   obtain ⟨hg,hbc⟩:=hcut
   obtain ⟨wd,rfl⟩:∃ wd:World,wd=wc:=⟨_,rfl⟩
   have hc:=ab hbc.out
   replace hv:=aa (hv.out.trans (show _=args.all (aU p act) from by rw [hg,Bt]))
   clear hg qH qF qM qP
   go_wp2
   go_loopw [7] (fun i wr=>∃ k:Nat,k≤args.length∧i=.int .i64 k∧Hid ((args.take k).all (aU p act)=true)∧Hid (Below wb.heap.size wb wr)) (fun i _=>args.length-(intOf i).toNat)
   case atStart=>exact ⟨0,Bo _,rfl,aa (by simp),hbc⟩
   case round=>
    clear hc hbc
    obtain ⟨k,hk,rfl,ht0,hbr⟩:=hrel
    have hzr:=hbr.out.size
    have hc:=ab hbr.out
    by_cases hlt:k<args.length
    ·obtain ⟨b,o,ecs,hA,hb,hel,hcell,hr⟩:=hS.out.2 k _ (Bk hlt)
     subst hA
     have hltz:(k:Int)<(args.length:Int):=by omega
     have hX0:=fun d os=>ih.out _ (Bv hlt) ecs (Bl (redrawn wr d) os) (by have:=cH wr d os;omega) (hP2.out.below ((aA hbr.out hzr d os).mono (by omega))) (ai.keep hr fun q hq=>((aA hbr.out hzr d os).mono (show B≤_ by omega)).cell hq)
     have hst:=aa (fun h=>bT (p:=aU p act) hlt h)
     have hnx:=aa (fun h=>ci (p:=aU p act) hlt ht0.out h)
     generalize aU p act args[k]=t at hX0 hst hnx
     generalize args[k]=x at hr
     obtain ⟨op',lit',head',name',hi',lo',args'⟩:=x
     obtain ⟨A',cap',rfl,-,-,-,-,-,-,hs'⟩:=RE.inv hr
     have hl':=hs'.len
     obtain ⟨x0,x1,x2,x3,x4,x5,x6,x7,x8⟩:=cl hcell
     have hX':∀ d os,Hid (Calls prog 107 #[.agg (aq p A1 A2 A3 A4 A5 A6 A7 c1 c2 c3 c4 c5 c6 c7),.int .i64 act,.agg (aO op' lit' head' name' hi' lo' A' args'.length cap')] (Bl (redrawn wr d) os) _):=fun d os=>aa (hX0 d os)
     have hg:=ax hbr.out hzr
     have hb':b<wb.heap.size:=by omega
     clear hcell hr hX0 hs' hel
     cases t with
     |true=>
      have hres:=aa (hnx.out rfl)
      clear hnx hst
      go_wp2_with fail
      refine cD ?_
      repeat (any_goals (first|go_big_quiet_step (first|(go_at_call 107;with_reducible exact Bh (hX' _ _).out))|quiet_step (first|(go_at_call 107;with_reducible exact Bh (hX' _ _).out))))
      refine wpQuiet_nil ?_
      intro w1 hw1
      replace hw1:=ac hw1
      go_wp2
      go_roundw
      case rel=>exact ⟨k+1,by omega,by go_num,hres,aa (hbr.out.trans (hw1.mono hzr))⟩
      case measure=>simp [intOf];omega
     |false=>
      have hres:=hst.out rfl
      clear hnx hst
      replace hres:=aa hres
      go_wp2_with fail
      refine cD ?_
      repeat (any_goals (first|go_big_quiet_step (first|(go_at_call 107;with_reducible exact Bh (hX' _ _).out))|quiet_step (first|(go_at_call 107;with_reducible exact Bh (hX' _ _).out))))
      refine wpQuiet_nil ?_
      intro w1 hw1
      replace hw1:=ac hw1
      go_wp2
      go_ret
      exact ⟨ah (hv.out.trans hres.out).symm,hBk.out _ (hbr.out.trans (hw1.mono hzr))⟩
    ·have hres:=aa (cJ ht0.out hlt)
     go_wp2
     go_ret
     exact ⟨ah (hv.out.trans hres.out).symm,hBk.out _ hbr.out⟩
end Go.Proofs.YtbbdhknagofghaaGreat
