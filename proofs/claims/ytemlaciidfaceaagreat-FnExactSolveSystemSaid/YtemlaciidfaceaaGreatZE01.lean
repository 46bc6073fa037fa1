/-
  Own work: part 6 of the texts that the proof of the given statement leans on.
-/
import Derived.Test.YtemlaciidfaceaaGreatZE00
noncomputable section
namespace Go.Di
theorem zfU {x:List Int} {i:Nat} (h:i < x.length):x[i]? = some x[i]:=List.getElem?_eq_getElem h
theorem Dig.zM2 {x:List Int} {i:Nat} {d:Int} (h:∀ p,p≠i→∀ e,x[p]? = some e→0≤e∧e < 1000000000) (hd:0≤d∧d < 1000000000):Dig (x.set i d):=fun e he=>by
  obtain ⟨p,hp,rfl⟩:=List.getElem_of_mem he
  rw[List.length_set] at hp
  by_cases hpi:p=i
  · subst hpi; simpa using hd
  · have:=h p hpi x[p] (zfU hp)
    rw[List.getElem_set_ne (by omega)]; exact this
theorem zNW {x:List Int} {k n:Nat} (hlow:∀ p,p < k+n→∀ e,x[p]? = some e→0≤e∧e < 1000000000):Dig ((x.drop k).take n):=fun e he=>by
  obtain ⟨p,hp,rfl⟩:=List.getElem_of_mem he
  rw[List.length_take,List.length_drop] at hp
  have h1:k+p < x.length:=by omega
  have:=hlow (k+p) (by omega) x[k+p] (zfU h1)
  simpa using this
theorem zvn {y x:List Int} {k:Nat} (hy:Dig y) (hkn:k+y.length < x.length) (hlow:∀ p,p < k+y.length→∀ e,x[p]? = some e→0≤e∧e < 1000000000)
    (hz:∀ p,k+y.length < p→p < x.length→x[p]? = some 0) (hY:0 < nv y) :
    (0≤nv (x.drop k)→nv (x.drop k) < nv y→x[k+y.length]=0)∧(nv (x.drop k) < 0 → -nv y≤nv (x.drop k)→x[k+y.length] = -1):=by
  have hW:=zNW hlow
  have h1:=zaT hW
  have h2:=zpf hW
  have hl:((x.drop k).take y.length).length=y.length:=by rw[List.length_take,List.length_drop]; omega
  rw[hl] at h2
  exact zEZ (W:=nv ((x.drop k).take y.length)) (b:=bp y.length) ⟨h1,h2⟩ (zJ9 hkn hz) ⟨hY,zpf hy⟩
theorem zyk {y x out:List Int} {k L:Nat} {f V top:Int} (hy:Dig y) (hn:2≤y.length) (htop:y[y.length - 1]? = some top) (ht:1≤top) (h:RoundI y L V (k+1) x out) (hk:k < out.length) (hL:L≤1000000000) :
    ∃ x' out',zca (f,(y.length:Int),top,(k:Int),x,y,out,())=some (.inl (f,(y.length:Int),top,(k:Int) - 1,x',y,out',()))∧RoundI y L V k x' out':=by
  have hxl:=h.xlen
  have hol:=h.olen
  have hkn:k+y.length < x.length:=by omega
  have hx:=h.xd
  have hz:∀ p,k+y.length < p→p < x.length→x[p]? = some 0:=fun p h1 h2=>h.zero p (by omega) (by omega)
  have htl:top < 1000000000:=by
    have:=hy.at (show y.length - 1 < y.length by omega)
    rw[zfU (show y.length - 1 < y.length by omega)] at htop
    simp only[Option.some.injEq] at htop
    omega
  have htop':y[y.length - 1]=top:=by
    rw[zfU (show y.length - 1 < y.length by omega)] at htop
    simpa using htop
  have hb:=zL3 (n:=y.length) (by omega) hy rfl htop ht
  have hYp:0 < nv y:=by have:=zfd (y.length - 1); omega
  -- the limbs
  have hxn:=hx.at hkn
  have hx1:=hx.at (show k+y.length - 1 < x.length by omega)
  have hx2:=hx.at (show k+y.length - 2 < x.length by omega)
  have hy2:=hy.at (show y.length - 2 < y.length by omega)
  obtain ⟨xl,xl0,xl1,hX⟩:=zAe hx hn hkn hz
  obtain ⟨yl,yl0,yl1,hY⟩:=zKd hy hn
  rw[htop'] at hY
  have hXB:nv (x.drop k) < 1000000000 * nv y:=by
    rw[zde (show k < x.length by omega)]
    have h1:=hx.at (show k < x.length by omega)
    have h2:=h.lt
    omega
  have hX0:=zaT (hx.drop k)
  have hQ0:0≤nv (x.drop k) / nv y:=Int.ediv_nonneg hX0 (by omega)
  have hQB:nv (x.drop k) / nv y < 1000000000:=Int.ediv_lt_of_lt_mul hYp hXB
  have hQX:nv (x.drop k) / nv y * nv y≤nv (x.drop k):=Int.ediv_mul_le _ (by omega)
  have hQX2:nv (x.drop k) < (nv (x.drop k) / nv y+1) * nv y:=Int.lt_ediv_add_one_mul_self _ hYp
  generalize hQ:nv (x.drop k) / nv y=Q at *
  have hp:=zfd (y.length - 2)
  have hgb:=zuC hp hX ⟨xl0,xl1⟩ hY yl0 hQ0 hQX
  -- the top of the window is at most the top of the divisor
  have hbn:x[k+y.length]≤top:=by
    have h1:nv (x.drop (k+1))=nv ((x.drop (k+1)).take (y.length - 1))+bp (y.length - 1) * nv (x.drop (k+y.length)):=by
      rw[zdg (x.drop (k+1)) (k:=y.length - 1) (by rw[List.length_drop]; omega),List.drop_drop,show k+1+(y.length - 1)=k+y.length by omega]
    rw[zde hkn] at h1
    have h2:=zaT ((hx.drop (k+1)).take (y.length - 1))
    have h3:=zaT (hx.drop (k+y.length+1))
    have h4:=h.lt
    have h5:=zdg y (k:=y.length - 1) (by omega)
    rw[zde (show y.length - 1 < y.length by omega),htop',List.drop_of_length_le (show y.length≤y.length - 1+1 by omega)] at h5
    have h6:=(zkN hy (show y.length - 1≤y.length by omega)).2
    simp only[nv,Int.mul_zero,Int.add_zero] at h5
    have hp1:=zfd (y.length - 1)
    rcases Int.lt_or_le top x[k+y.length] with h7 | h7
    · exfalso
      have h8:bp (y.length - 1) * (top+1)≤bp (y.length - 1) * (x[k+y.length]+1000000000 * nv (x.drop (k+y.length+1))):=Int.mul_le_mul_of_nonneg_left (by omega) (by omega)
      have h9:bp (y.length - 1) * (top+1)=bp (y.length - 1) * top+bp (y.length - 1):=by grind
      omega
    · exact h7
  -- the first try
  have hqr:=Int.mul_ediv_add_emod (x[k+y.length] * 1000000000+x[k+y.length - 1]) top
  have hr0:=Int.emod_nonneg (x[k+y.length] * 1000000000+x[k+y.length - 1]) (show top≠0 by omega)
  have hr1:=Int.emod_lt_of_pos (x[k+y.length] * 1000000000+x[k+y.length - 1]) (show 0 < top by omega)
  have hQq:Q≤(x[k+y.length] * 1000000000+x[k+y.length - 1]) / top:=by
    refine (Int.le_ediv_iff_mul_le (by omega)).2 ?_
    have h1:0≤Q * y[y.length - 2]:=Int.mul_nonneg hQ0 hy2.1
    have h2:Q * (top * 1000000000+y[y.length - 2])=(Q * top) * 1000000000+Q * y[y.length - 2]:=by grind
    rw[h2] at hgb
    generalize Q * top=A at *
    omega
  obtain ⟨q',hq1,hq2,hq3,hq4⟩:=guess_loop (x:=x) (y:=y) (out:=out) (k:=k) (n:=y.length) (f:=f) (top:=top) (q:=(x[k+y.length] * 1000000000+x[k+y.length - 1]) / top) (r:=(x[k+y.length] * 1000000000+x[k+y.length - 1]) % top) (Q:=Q)
    hn (by omega) hkn rfl (zfU (show k+y.length - 2 < x.length by omega)) (zfU (show y.length - 2 < y.length by omega)) hx2 hy2 ⟨hxn.1,hbn⟩ hx1 ⟨ht,htl⟩ ⟨hQ0,hQB⟩ hgb (by rw[Int.mul_comm]; exact hqr) ⟨hr0,by omega⟩ hQq
  have hq5:=guess_near (q:=q') (top:=top) hp hX ⟨xl0,xl1⟩ hY ⟨yl0,yl1⟩ hYp (by omega) ht hQ.symm (by omega) hq3 hq4
  obtain ⟨br,x',ht1,hT⟩:=zAg (y:=y) (x0:=x) (out:=out) (k:=k) (f:=f) (top:=top) (q:=q') hy hx ⟨by omega,hq3⟩ hkn (by omega)
  have hbr:=hT.b0
  have hlx:k+y.length < x'.length:=by rw[hT.len]; exact hkn
  have hxe:x'[k+y.length]=x[k+y.length]:=by
    have:=hT.rest (k+y.length) (Nat.le_refl _)
    rw[zfU hlx,zfU hkn] at this
    simpa using this
  have hD:=after_take hT hkn
  have e1:IntKind.i64.wrap ((k:Int)+(y.length:Int))=((k+y.length:Nat):Int):=by rw[wrap_i64 (by omega) (by omega)]; omega
  have e2:IntKind.i64.wrap (((k+y.length:Nat):Int) - 1)=((k+y.length - 1:Nat):Int):=by rw[wrap_i64 (by omega) (by omega)]; omega
  have e3:IntKind.i64.wrap ((k:Int) - 1)=(k:Int) - 1:=wrap_i64 (by omega) (by omega)
  have e4:IntKind.i64.wrap (x[k+y.length] - br)=x[k+y.length] - br:=wrap_i64 (by omega) (by omega)
  have e5:IntKind.i64.wrap (q' - 1)=q' - 1:=wrap_i64 (by omega) (by omega)
  have etop:zaj (top != 0)=some ():=by
    have:(top != 0)=true:=by simp; omega
    rw[this]; rfl
  have ediv:IntKind.i64.wrap ((IntKind.i64.wrap ((IntKind.i64.wrap (x[k+y.length] * 1000000000))+x[k+y.length - 1])).tdiv top)=(x[k+y.length] * 1000000000+x[k+y.length - 1]) / top:=by
    rw[wrap_i64 (n:=x[k+y.length] * 1000000000) (by omega) (by omega),wrap_i64 (n:=x[k+y.length] * 1000000000+x[k+y.length - 1]) (by omega) (by omega),Int.tdiv_eq_ediv_of_nonneg (by omega)]
    have h1:0≤(x[k+y.length] * 1000000000+x[k+y.length - 1]) / top:=Int.ediv_nonneg (by omega) (by omega)
    have h2:(x[k+y.length] * 1000000000+x[k+y.length - 1]) / top≤x[k+y.length] * 1000000000+x[k+y.length - 1]:=Int.ediv_le_self _ (by omega)
    exact wrap_i64 (by omega) (by omega)
  have emod:(IntKind.i64.wrap ((IntKind.i64.wrap (x[k+y.length] * 1000000000))+x[k+y.length - 1])).tmod top=(x[k+y.length] * 1000000000+x[k+y.length - 1]) % top:=by
    rw[wrap_i64 (n:=x[k+y.length] * 1000000000) (by omega) (by omega),wrap_i64 (n:=x[k+y.length] * 1000000000+x[k+y.length - 1]) (by omega) (by omega),Int.tmod_eq_emod_of_nonneg (by omega)]
  have hset:∀ d:Int,(x'.set (k+y.length) d)[k+y.length]? = some d:=fun d=>by simp[hlx]
  have hsl:k+y.length < (x'.set (k+y.length) (x[k+y.length] - br)).length:=by simpa using hlx
  have hslow:∀ p,p < k+y.length→∀ e,(x'.set (k+y.length) (x[k+y.length] - br))[p]? = some e→0≤e∧e < 1000000000:=fun p hp e he=>by
    rw[List.getElem?_set_ne (by omega)] at he
    exact hT.dig e (List.mem_of_getElem? he)
  have hsz:∀ p,k+y.length < p→p < (x'.set (k+y.length) (x[k+y.length] - br)).length→(x'.set (k+y.length) (x[k+y.length] - br))[p]? = some 0:=fun p h1 h2=>by
    rw[List.getElem?_set_ne (by omega),hT.rest p (by omega)]
    rw[List.length_set,hT.len] at h2
    exact hz p h1 h2
  have hsg:=zvn hy hsl hslow hsz hYp
  have hse:(x'.set (k+y.length) (x[k+y.length] - br))[k+y.length]'hsl=x[k+y.length] - br:=by simp
  rw[hse,hD] at hsg
  simp only[zca,show decide ((k:Int) ≥ 0)=true by simp,cond_true,e1,e2,zaL hkn,zfU hkn,Int.toNat_natCast,zaL (show k+y.length - 1 < x.length by omega),zfU (show k+y.length - 1 < x.length by omega),Option.bind_some,etop,ediv,emod,hq1,ht1,zaL hlx,zfU hlx,hxe,e4,zeW (hset _),hset,e3,zaL hk,e5]
  by_cases hneg:x[k+y.length] - br < 0
  · -- one too many
    rw[decide_eq_true hneg,cond_true]
    have hDneg:nv (x.drop k) - q' * nv y < 0:=by
      rcases Int.lt_or_le (nv (x.drop k) - q' * nv y) 0 with h1 | h1
      · exact h1
      · exfalso
        have h2:(q':Int) * nv y≤nv (x.drop k):=by omega
        have h3:Q * nv y≤q' * nv y:=Int.mul_le_mul_of_nonneg_right hq2 (by omega)
        have h4:(Q+1) * nv y=Q * nv y+nv y:=by grind
        have:=hsg.1 h1 (by omega)
        omega
    have hq6:q'=Q+1:=by
      rcases Int.lt_or_le Q q' with h1 | h1
      · omega
      · exfalso
        have:q'=Q:=by omega
        subst this
        omega
    obtain ⟨c,x3,hb1,hB⟩:=zEz (y:=y) (x0:=x'.set (k+y.length) (x[k+y.length] - br)) (out:=out) (k:=k) (f:=f) (top:=top) (q:=q' - 1) hy hslow hsl (by rw[List.length_set,hT.len]; omega)
    have hl3:k+y.length < x3.length:=by rw[hB.len]; exact hsl
    have hc:=hB.c0
    have h3e:x3[k+y.length]=x[k+y.length] - br:=by
      have:=hB.rest (k+y.length) (Nat.le_refl _)
      rw[zfU hl3,hset] at this
      simpa using this
    have e6:IntKind.i64.wrap (x[k+y.length] - br+c)=x[k+y.length] - br+c:=wrap_i64 (by omega) (by omega)
    simp only[hb1,Option.bind_some,e1,zaL hl3,zfU hl3,Int.toNat_natCast,h3e,e6,zaL hk,e3]
    have hm1:=hsg.2 hDneg (by
      have h4:q' * nv y=Q * nv y+nv y:=by rw[hq6]; grind
      omega)
    -- the value behind
    have hv4:nv ((x3.set (k+y.length) (x[k+y.length] - br+c)).drop k)=nv (x.drop k) - Q * nv y:=by
      have hv:=hB.val
      rw[List.take_length] at hv
      have hs:=zmV (d:=x[k+y.length] - br+c) hl3
      rw[h3e] at hs
      have s1:=zdg (x'.set (k+y.length) (x[k+y.length] - br)) (k:=k) (by omega)
      have s2:=zdg (x3.set (k+y.length) (x[k+y.length] - br+c)) (k:=k) (by simp; omega)
      have s3:(x3.set (k+y.length) (x[k+y.length] - br+c)).take k=(x'.set (k+y.length) (x[k+y.length] - br)).take k:=zoW fun p hp=>by
        rw[List.getElem?_set_ne (by omega)]; exact hB.low p hp
      rw[s3,hs] at s2
      rw[hD] at s1
      have h4:q' * nv y=Q * nv y+nv y:=by rw[hq6]; grind
      refine Int.eq_of_mul_eq_mul_left (show bp k≠0 by have:=zfd k; omega) ?_
      rw[h4] at s1
      generalize nv ((x3.set (k+y.length) (x[k+y.length] - br+c)).drop k)=A at *
      generalize nv (x.drop k)=X at *
      generalize nv y=Y at *
      generalize Q * Y=QY at *
      generalize bp (k+y.length)=P at *
      generalize bp k=p at *
      generalize x[k+y.length] - br=e at *
      grind
    have hl4:k+y.length < (x3.set (k+y.length) (x[k+y.length] - br+c)).length:=by simpa using hl3
    have h4low:∀ p,p < k+y.length→∀ e,(x3.set (k+y.length) (x[k+y.length] - br+c))[p]? = some e→0≤e∧e < 1000000000:=fun p hp e he=>by
      rw[List.getElem?_set_ne (by omega)] at he
      exact hB.dig p hp e he
    have h4z:∀ p,k+y.length < p→p < (x3.set (k+y.length) (x[k+y.length] - br+c)).length→(x3.set (k+y.length) (x[k+y.length] - br+c))[p]? = some 0:=fun p h1 h2=>by
      rw[List.getElem?_set_ne (by omega),hB.rest p (by omega)]
      rw[List.length_set,hB.len] at h2
      exact hsz p h1 h2
    have hsg4:=zvn hy hl4 h4low h4z hYp
    have h5:(Q+1) * nv y=Q * nv y+nv y:=by grind
    have hzero:=hsg4.1 (by rw[hv4]; omega) (by rw[hv4]; omega)
    have hse4:(x3.set (k+y.length) (x[k+y.length] - br+c))[k+y.length]'hl4=x[k+y.length] - br+c:=by simp
    rw[hse4] at hzero
    refine ⟨_,_,rfl,?_⟩
    have hqQ:q' - 1=Q:=by omega
    rw[hqQ]
    refine h.mk' hk (by simp[hB.len,hT.len,hxl]) ?_ (fun p hp=>?_) (fun p hp1 hp2=>?_) ⟨hQ0,hQB⟩ hv4 (by rw[hv4]; omega)
    · rw [hzero]
      refine Dig.zM2 (fun p hpne e he=>?_) (by omega)
      rcases Nat.lt_or_ge p (k+y.length) with h6 | h6
      · exact hB.dig p h6 e he
      · have hpl:p < x3.length:=(List.getElem?_eq_some_iff.1 he).1
        have:=h4z p (by omega) (by simpa using hpl)
        rw[List.getElem?_set_ne (by omega)] at this
        rw[this] at he; simp only[Option.some.injEq] at he; omega
    · rw[List.getElem?_set_ne (by omega),hB.low p hp,List.getElem?_set_ne (by omega),hT.low p hp]
    · by_cases hpe:p=k+y.length
      · subst hpe
        rw[List.getElem?_eq_getElem hl4,hse4,hzero]
      · exact h4z p (by omega) (by simp[hB.len,hT.len]; omega)
  · rw [decide_eq_false hneg,cond_false]
    have hDpos:0≤nv (x.drop k) - q' * nv y:=by
      rcases Int.lt_or_le (nv (x.drop k) - q' * nv y) 0 with h1 | h1
      · exfalso
        have h2:q' * nv y≤(Q+1) * nv y:=Int.mul_le_mul_of_nonneg_right (by omega) (by omega)
        have h4:(Q+1) * nv y=Q * nv y+nv y:=by grind
        have:=hsg.2 h1 (by omega)
        omega
      · exact h1
    have hqQ:q'=Q:=by
      rcases Int.lt_or_le Q q' with h1 | h1
      · exfalso
        have h2:(Q+1) * nv y≤q' * nv y:=Int.mul_le_mul_of_nonneg_right h1 (by omega)
        omega
      · omega
    subst hqQ
    have h5:(q'+1) * nv y=q' * nv y+nv y:=by grind
    have hzero:=hsg.1 hDpos (by omega)
    refine ⟨_,_,rfl,?_⟩
    refine h.mk' hk (by simp[hT.len,hxl]) ?_ (fun p hp=>?_) (fun p hp1 hp2=>?_) ⟨hQ0,hQB⟩ hD (by rw[hD]; omega)
    · rw[hzero]
      exact hT.dig.set _ (by omega)
    · rw[List.getElem?_set_ne (by omega),hT.low p hp]
    · by_cases hpe:p=k+y.length
      · subst hpe
        rw[hset,hzero]
      · exact hsz p (by omega) (by simp[hT.len]; omega)
end Go.Di
namespace Go.Di
theorem zfT {a:List Int} (h:a.length≤1073741824):zaQ a=some a:=by
  unfold zaQ
  rw[room h]; rfl
theorem zFl {a x y:List Int} {f n:Int} (hx:x.length≤a.length+1) (ha:a.length≤1073741000) :
    zgc a f n x y=some (f,n,x++List.replicate (a.length+1 - x.length) 0,y,()):=by
  unfold zgc
  have key:=za0 zcR (fun i=>(a,f,n,x++List.replicate i 0,y,())) (a.length+1 - x.length) (f,n,x++List.replicate (a.length+1 - x.length) 0,y,()) (fun i hi=>by
    have h1:decide (((x++List.replicate i (0:Int)).length:Int)≤(a.length:Int))=true:=by simp; omega
    simp only[zcR,h1,cond_true,room (show (x++List.replicate i (0:Int)).length+1≤1073741824 by simp; omega),Option.bind_some]
    rw[List.append_assoc,← List.replicate_succ']) (by
    have h1:decide (((x++List.replicate (a.length+1 - x.length) (0:Int)).length:Int)≤(a.length:Int))=false:=by simp; omega
    simp only[zcR,h1,cond_false])
  simpa using key
theorem zM7 (x:List Int) (n:Nat):nv (x++List.replicate n 0)=nv x:=by rw[zkn,zmi]; omega
theorem zyl {y x0:List Int} {L:Nat} {f V top:Int} (hy:Dig y) (hn:2≤y.length) (htop:y[y.length - 1]? = some top) (ht:1≤top) (hL:L≤1000000000) (N:Nat) (hN:N+y.length=L) (h:RoundI y L V N x0 (List.replicate N 0)) :
    ∃ x out,zgb f (y.length:Int) top ((N:Int) - 1) x0 y (List.replicate N 0)=some (f,x,out,())∧RoundI y L V 0 x out:=by
  unfold zgb
  obtain ⟨r,h1,x,out,rfl,h2⟩:=zbW (S:=zca) (fun i z=>∃ x out,z=(f,(y.length:Int),top,((N - i:Nat):Int) - 1,x,y,out,())∧RoundI y L V (N - i) x out) N (fun r=>∃ x out,r=(f,x,out,())∧RoundI y L V 0 x out)
    (fun i hi z hz=>by
      obtain ⟨x,out,rfl,hI⟩:=hz
      left
      have e:((N - i:Nat):Int) - 1=((N - (i+1):Nat):Int):=by omega
      have e2:N - i=(N - (i+1))+1:=by omega
      rw[e2] at hI
      obtain ⟨x',out',q1,q2⟩:=zyk (f:=f) hy hn htop ht hI (by have:=hI.olen; omega) hL
      rw[e]
      exact ⟨_,q1,x',out',rfl,q2⟩)
    (fun z hz=>by
      obtain ⟨x,out,rfl,hI⟩:=hz
      rw[Nat.sub_self] at *
      exact ⟨_,by simp[zca],x,out,rfl,hI⟩)
    (x:=(f,(y.length:Int),top,(N:Int) - 1,x0,y,List.replicate N 0,())) ⟨x0,List.replicate N 0,by simp,by simpa using h⟩
  exact ⟨x,out,h1,h2⟩
theorem zrz {n:Nat} (h0:0 < n) (h:n < 1000000000):dg n=[(n:Int)]:=by
  rw[zov (by omega),Nat.mod_eq_of_lt h,Nat.div_eq_of_lt h,zaB]
theorem zvK {n:Nat} (h:(dg n).length=1):0 < n∧n < 1000000000∧dg n=[(n:Int)]:=by
  have h0:n≠0:=by rintro rfl; rw[zaB] at h; simp at h
  have hlt:(n:Int) < bp 1:=zfb.1 (by omega)
  have hb:bp 1=1000000000:=by decide
  rw[hb] at hlt
  exact ⟨by omega,by omega,zrz (by omega) (by omega)⟩
theorem impl_div {m n:Nat} (hm:(dg m).length≤100000000) (hn:(dg n).length≤100000000) (h0:0 < n):zbA (dg m) (dg n)=some (dg (m / n),dg (m % n)):=by
  unfold zbA
  have hcmp:=zv1 (zbU m) (zbU n) (by omega)
  rw[zcv,zcv] at hcmp
  rw[hcmp,Option.bind_some,zD2]
  by_cases hlt:m < n
  · have hd:decide ((m:Int) < (n:Int))=true:=by simpa using hlt
    rw[hd,cond_true,zfT (by omega),Option.bind_some,Nat.div_eq_of_lt hlt,Nat.mod_eq_of_lt hlt,zaB]
  · have hd : decide ((m:Int) < (n:Int))=false:=by simpa using hlt
    rw[hd,cond_false]
    by_cases h1:(dg n).length=1
    · have hb:(((dg n).length:Int)==1)=true:=by rw[h1]; rfl
      obtain ⟨_,hsm,e⟩:=zvK h1
      rw[hb,cond_true,e,show ((0:Int)=((0:Nat):Int)) from rfl,zeW (x:=(n:Int)) (by rfl),Option.bind_some,zon (by omega) ⟨h0,hsm⟩,Option.bind_some]
    · have hb : (((dg n).length:Int)==1)=false:=by rw[beq_eq_false_iff_ne]; omega
      have hne:dg n≠[]:=fun e=>by have:=zfY.1 e; omega
      have hl2:2≤(dg n).length:=by have:=List.length_pos_iff.2 hne; omega
      have hlast:=zml hne (by omega)
      -- the top limb of the divisor
      have hbl:(dg n).getLast hne=(dg n)[(dg n).length - 1]'(by omega):=List.getLast_eq_getElem ..
      have hbd:=(zej n).at (show (dg n).length - 1 < (dg n).length by omega)
      have hb0:(dg n)[(dg n).length - 1]'(by omega)≠0:=by
        rw[← hbl]
        intro e
        have:=(zbU n).2
        rw[zqk,List.getLast?_eq_some_getLast hne,e] at this
        exact this rfl
      have hnlow:=(zbU n).low hne
      have hns:=zdg (dg n) (k:=(dg n).length - 1) (by omega)
      rw[zde (show (dg n).length - 1 < (dg n).length by omega),List.drop_of_length_le (show (dg n).length≤(dg n).length - 1+1 by omega)] at hns
      have hnt:=(zkN (zej n) (show (dg n).length - 1≤(dg n).length by omega)).2
      simp only[nv,Int.mul_zero,Int.add_zero] at hns
      rw[zcv] at hnlow hns
      rw[hb,cond_false,hlast,Option.bind_some,hbl]
      generalize hbt:(dg n)[(dg n).length - 1]'(by omega)=bt at *
      have e1:IntKind.i64.wrap (bt+1)=bt+1:=wrap_i64 (by omega) (by omega)
      have hg:zaj (bt+1 != 0)=some ():=by
        have:(bt+1 != 0)=true:=by simp; omega
        rw[this]; rfl
      have ef:IntKind.i64.wrap ((1000000000:Int).tdiv (bt+1))=1000000000 / (bt+1):=by
        rw[Int.tdiv_eq_ediv_of_nonneg (by omega)]
        have h1:0≤1000000000 / (bt+1):=Int.ediv_nonneg (by omega) (by omega)
        have h2:1000000000 / (bt+1)≤1000000000:=Int.ediv_le_self _ (by omega)
        exact wrap_i64 (by omega) (by omega)
      have hf1:1≤1000000000 / (bt+1):=(Int.le_ediv_iff_mul_le (by omega)).2 (by omega)
      have hf2:1000000000 / (bt+1) < 1000000000:=Int.ediv_lt_of_lt_mul (by omega) (by omega)
      have hf3:1000000000 / (bt+1) * (bt+1)≤1000000000:=Int.ediv_mul_le _ (by omega)
      rw[e1,hg,Option.bind_some,ef]
      generalize hF:1000000000 / (bt+1)=F at *
      obtain ⟨f,rfl⟩:∃ f:Nat,F=(f:Int):=⟨F.toNat,by omega⟩
      rw[← zrz (n:=f) (by omega) (by omega)]
      have hlf:(dg f).length=1:=by rw[zrz (by omega) (by omega)]; rfl
      rw[ziE (by omega) (by omega),Option.bind_some,ziE (by omega) (by omega),Option.bind_some]
      have hp:=zfd ((dg n).length - 1)
      have hbs:bp (dg n).length=1000000000 * bp ((dg n).length - 1):=by
        have:=zel ((dg n).length - 1)
        rwa [show (dg n).length - 1+1=(dg n).length by omega] at this
      -- the length of the divisor stays
      have hyl:(dg (n * f)).length=(dg n).length:=by
        have h1:(dg n).length≤(dg (n * f)).length:=zbN (Nat.le_mul_of_pos_right n (by omega))
        have h2:(dg (n * f)).length≤(dg n).length:=by
          rw[zfb,hbs]
          have h3:(n:Int) * f≤((bp ((dg n).length - 1)) * (bt+1) - 1) * f:=by
            refine Int.mul_le_mul_of_nonneg_right ?_ (by omega)
            have:bp ((dg n).length - 1) * (bt+1)=bp ((dg n).length - 1) * bt+bp ((dg n).length - 1):=by grind
            omega
          have h4:bp ((dg n).length - 1) * ((f:Int) * (bt+1))≤bp ((dg n).length - 1) * 1000000000:=Int.mul_le_mul_of_nonneg_left hf3 (by omega)
          have h5:((n * f:Nat):Int)=(n:Int) * f:=by simp
          have h6:((bp ((dg n).length - 1)) * (bt+1) - 1) * f=bp ((dg n).length - 1) * ((f:Int) * (bt+1)) - f:=by grind
          rw[h5]
          omega
        omega
      have hxl:(dg (m * f)).length≤(dg m).length+1:=by have:=ziD m f; omega
      have hxl':=hxl
      have hmn:(dg n).length≤(dg m).length:=zbN (by omega)
      rw[zFl hxl (by omega),Option.bind_some]
      simp only[]
      rw[hyl]
      have hXl:(dg (m * f)++List.replicate ((dg m).length+1 - (dg (m * f)).length) (0:Int)).length=(dg m).length+1:=by simp; omega
      have hXv:nv (dg (m * f)++List.replicate ((dg m).length+1 - (dg (m * f)).length) (0:Int))=((m * f:Nat):Int):=by rw[zM7,zcv]
      have hXd:Dig (dg (m * f)++List.replicate ((dg m).length+1 - (dg (m * f)).length) (0:Int)):=(zej _).append (Dig.zeros _)
      have hyd:=zej (n * f)
      have hyv:=zcv (n * f)
      have hyc:=zbU (n * f)
      generalize dg (m * f)++List.replicate ((dg m).length+1 - (dg (m * f)).length) (0:Int)=x at *
      generalize dg (n * f)=y at *
      have e3:IntKind.i64.wrap ((x.length:Int) - ((dg n).length:Int))=(((dg m).length+1 - (dg n).length:Nat):Int):=by rw[hXl,wrap_i64 (by omega) (by omega)]; omega
      have e4:IntKind.i64.wrap (((dg n).length:Int) - 1)=((y.length - 1:Nat):Int):=by rw[wrap_i64 (by omega) (by omega)]; omega
      have htl:y.length - 1 < y.length:=by omega
      have e5:IntKind.i64.wrap ((((dg m).length+1 - (dg n).length:Nat):Int) - 1)=(((dg m).length+1 - (dg n).length:Nat):Int) - 1:=wrap_i64 (by omega) (by omega)
      rw[e3,ziC (by omega),Option.bind_some,e4,zaL htl,Option.bind_some,Int.toNat_natCast,zfU htl,Option.bind_some,e5,Int.toNat_natCast]
      have hyne:y≠[]:=by intro e; rw[e] at hyl; simp at hyl; omega
      have hyt:1≤y[y.length - 1]:=by
        have h1:=hyd.at htl
        have h2:y[y.length - 1]≠0:=by
          rw[← List.getLast_eq_getElem hyne]
          intro e
          have:=hyc.2
          rw[zqk,List.getLast?_eq_some_getLast hyne,e] at this
          exact this rfl
        omega
      have hI : RoundI y ((dg m).length+1) ((m * f:Nat):Int) ((dg m).length+1 - (dg n).length) x (List.replicate ((dg m).length+1 - (dg n).length) 0):=by
        refine ⟨hXl,by simp[hyl]; omega,hXd,Dig.zeros _,fun p h1 h2=>by omega,?_,?_⟩
        · rw [hyv]
          rcases Int.lt_or_le (nv (x.drop ((dg m).length+1 - (dg n).length))) (((n * f:Nat):Int)) with h | h
          · exact h
          · exfalso
            have s1:=zdg x (k:=(dg m).length+1 - (dg n).length) (by omega)
            have s2:=zaT (hXd.take ((dg m).length+1 - (dg n).length))
            rw[hXv] at s1
            have hpk:=zfd ((dg m).length+1 - (dg n).length)
            have s3:bp ((dg m).length+1 - (dg n).length) * ((n * f:Nat):Int)≤((m * f:Nat):Int):=by
              have:=Int.mul_le_mul_of_nonneg_left h (Int.le_of_lt hpk)
              omega
            have s4:(bp ((dg m).length+1 - (dg n).length) * (n:Int)) * f≤(m:Int) * f:=by
              have:((n * f:Nat):Int)=(n:Int) * f:=by simp
              rw[this] at s3
              have:((m * f:Nat):Int)=(m:Int) * f:=by simp
              rw[this] at s3
              rw[Int.mul_assoc]; exact s3
            have s5:=Int.le_of_mul_le_mul_right s4 (by omega)
            have s6:bp ((dg m).length+1 - (dg n).length) * bp ((dg n).length - 1)≤bp ((dg m).length+1 - (dg n).length) * (n:Int):=Int.mul_le_mul_of_nonneg_left hnlow (by omega)
            rw[← zr9,show (dg m).length+1 - (dg n).length+((dg n).length - 1)=(dg m).length by omega] at s6
            have s7:=(zfb (n:=m)).1 (Nat.le_refl _)
            omega
        · rw[hXv,List.drop_of_length_le (by simp),nv]; simp
      have hyl':(((dg n).length:Nat):Int)=(y.length:Int):=by rw[hyl]
      obtain ⟨x1,out,hr,hR⟩:=zyl (f:=(f:Int)) hyd (by omega) (zfU htl) hyt (by omega) ((dg m).length+1 - (dg n).length) (by omega) hI
      rw[hyl',hr,Option.bind_some]
      simp only[]
      have hv:=hR.val
      have hlt2:=hR.lt
      have hx1l:=hR.xlen
      have hol:=hR.olen
      rw[List.drop_zero] at hlt2
      rw[List.drop_zero,znB,Int.one_mul,hyv] at hv
      rw[hyv] at hlt2
      have hx10:=zaT hR.xd
      have hout0:=zaT hR.od
      rw[zhX (by omega),Option.bind_some,zqm hR.xd,zhX (by omega)]
      obtain ⟨r,hr'⟩:∃ r:Nat,nv x1=(r:Int):=⟨(nv x1).toNat,by omega⟩
      obtain ⟨q,hq'⟩:∃ q:Nat,nv out=(q:Int):=⟨(nv out).toNat,by omega⟩
      rw[hr',hq'] at hv
      rw[hr'] at hlt2
      have hvN:m * f=r+n * f * q:=by exact_mod_cast hv
      have hltN:r < n * f:=by exact_mod_cast hlt2
      have hq:q=m / n:=by
        have h1:(m * f) / (n * f)=q:=by
          rw[hvN,Nat.add_mul_div_left _ _ (by omega),Nat.div_eq_of_lt hltN,Nat.zero_add]
        rw[← h1,Nat.mul_div_mul_right _ _ (by omega)]
      have hrr:r=(m % n) * f:=by
        have h1:(m * f) % (n * f)=r:=by
          rw[hvN,Nat.add_mul_mod_self_left,Nat.mod_eq_of_lt hltN]
        rw[← h1,Nat.mul_mod_mul_right]
      have hrl:(dg r).length≤1073740000:=by
        have:(dg r).length≤(dg m).length+1:=Nat.le_trans (zbN (show r≤m * f by omega)) hxl'
        omega
      rw[hr',Int.toNat_natCast,zon hrl ⟨by omega,by omega⟩,Option.bind_some,zqm hR.od,hq',Int.toNat_natCast,Option.bind_some,hq,hrr,Nat.mul_div_cancel _ (by omega)]
end Go.Di
namespace Go.Di
theorem impl_gcd {m n:Nat} (hm:(dg m).length≤100000000) (hn:(dg n).length≤100000000) (h0:0 < m):zdM (dg m) (dg n)=some (dg (Nat.gcd m n)):=by
  unfold zdM zir
  obtain ⟨r, h1,p,q,rfl,hg,hp0,hpl,hq⟩:=zha (S:=zbF) (fun x=>∃ p q:Nat,x=(dg p,dg q,())∧Nat.gcd p q=Nat.gcd m n∧(p=0→2≤(dg q).length)∧(dg p).length≤100000000∧(dg q).length≤100000000) (fun x=>(nv x.2.1).toNat)
    (fun r=>∃ p q:Nat,r=(dg p,dg q,())∧Nat.gcd p q=Nat.gcd m n∧0 < p∧(dg p).length≤100000000∧(q=0∨(dg p).length≤1∧(dg q).length=1))
    (fun x hx => by
      obtain ⟨p,q,rfl,hg,hp,hpl,hql⟩:=hx
      have hstep:0 < q→(∃ y,((zbA (dg p) (dg q)).bind fun (r0,r1)=>(some (Sum.inl (dg q,r1,())):Option ((List Int × List Int × Unit) ⊕ (List Int × List Int × Unit))))=some (.inl y)∧(∃ p' q':Nat,y=(dg p',dg q',())∧Nat.gcd p' q'=Nat.gcd m n∧(p'=0→2≤(dg q').length)∧(dg p').length≤100000000∧(dg q').length≤100000000)∧(nv y.2.1).toNat < (nv (dg q)).toNat):=by
        intro hq0
        rw[impl_div hpl hql hq0]
        refine ⟨_,rfl,⟨q,p % q,rfl,?_,fun e=>by omega,hql,?_⟩,?_⟩
        · rw[← hg,Nat.gcd_comm p q,Nat.gcd_rec q p,Nat.gcd_comm]
        · exact Nat.le_trans (zbN (Nat.mod_le p q)) hpl
        · simp only[zcv,Int.toNat_natCast]; exact Nat.mod_lt _ hq0
      by_cases hb:1 < (dg q).length
      · left
        have hq0:0 < q:=by
          rcases Nat.eq_zero_or_pos q with h | h
          · subst h; rw[zaB] at hb; simp at hb
          · exact h
        have e1:decide (((dg q).length:Int) > 1)=true:=by simp only[decide_eq_true_eq]; omega
        simp only[zbF,e1,cond_true]
        exact hstep hq0
      · have e1:decide (((dg q).length:Int) > 1)=false:=by simp only[decide_eq_false_iff_not]; omega
        have hpos:0 < p:=by
          rcases Nat.eq_zero_or_pos p with h | h
          · have:=hp h; omega
          · exact h
        by_cases ha:1 < (dg p).length
        · have e2:decide (((dg p).length:Int) > 1)=true:=by simp only[decide_eq_true_eq]; omega
          by_cases hq0:q=0
          · right
            subst hq0
            refine ⟨(dg p,dg 0,()),?_,p,0,rfl,hg,hpos,hpl,.inl rfl⟩
            simp only[zbF,e1,e2,cond_true,cond_false]
            simp[zaB]
          · left
            have hqn:dg q≠[]:=fun e=>hq0 (zfY.1 e)
            have e3:decide (((dg q).length:Int) > 0)=true:=by have:=List.length_pos_iff.2 hqn; simp only[decide_eq_true_eq]; omega
            simp only[zbF,e1,e2,e3,cond_true,cond_false]
            exact hstep (by omega)
        · right
          have e2:decide (((dg p).length:Int) > 1)=false:=by simp only[decide_eq_false_iff_not]; omega
          refine ⟨(dg p,dg q,()),?_,p,q,rfl,hg,hpos,hpl,?_⟩
          · simp only[zbF,e1,e2,cond_false]
          · by_cases hq0:q=0
            · exact .inl hq0
            · right
              have hqn:dg q≠[]:=fun e=>hq0 (zfY.1 e)
              have:=List.length_pos_iff.2 hqn
              exact ⟨by omega,by omega⟩)
    (x:=(dg m,dg n,())) ⟨m,n,rfl,rfl,fun e=>by omega,hm,hn⟩
  rw[h1,Option.bind_some]
  simp only[]
  rcases hq with rfl | ⟨hp1,hq1⟩
  · have:(((dg 0).length:Int)==0)=true:=by rw[zaB]; rfl
    rw[this,cond_true,zfT (by omega),Option.bind_some,← hg,Nat.gcd_zero_right]
  · have hpn:dg p≠[]:=fun e=>by have:=zfY.1 e; omega
    have hpl1:(dg p).length=1:=by have:=List.length_pos_iff.2 hpn; omega
    obtain ⟨p0,pB,pe⟩:=zvK hpl1
    obtain ⟨q0,qB,qe⟩:=zvK hq1
    have:(((dg q).length:Int)==0)=false:=by rw[hq1]; rfl
    rw[this,cond_false,pe,qe,show ((0:Int)=((0:Nat):Int)) from rfl,zeW (x:=(p:Int)) (by rfl),Option.bind_some,zeW (x:=(q:Int)) (by rfl),Option.bind_some]
    unfold ziq
    rw [znl (S:=zcN) (fun x y h=>by
      have h1:((y:Int) != 0)=true:=by simp; omega
      simp only[zcN,h1,cond_true,zj7,Option.bind_some,zvs]) (fun x=>by simp[zcN]) q p,Option.bind_some]
    have hgp:Nat.gcd p q≤p:=Nat.gcd_le_left q p0
    have hgpos:0 < Nat.gcd p q:=Nat.gcd_pos_of_pos_left q p0
    simp only[]
    rw[← hg,zrz hgpos (by omega)]
end Go.Di
namespace Go.Di
def bg (z:Int):Bg:=⟨decide (z < 0),dg z.natAbs⟩
def sg (neg:Bool) (m:Nat):Int:=cond neg (-(m:Int)) m
theorem zkh (neg:Bool) (m:Nat):(sg neg m).natAbs=m:=by cases neg<;>simp[sg]
theorem zvx {neg:Bool} {m:Nat} (h:m≠0):decide (sg neg m < 0)=neg:=by
  cases neg with
  | false=>rw[decide_eq_false_iff_not]; simp only[sg,cond_false]; omega
  | true=>rw[decide_eq_true_eq]; simp only[sg,cond_true]; omega
theorem zEw {neg:Bool} {m:Nat} (h:m≠0):bg (sg neg m)=⟨neg,dg m⟩:=by unfold bg; rw[zkh,zvx h]
theorem zqi:bg 0=⟨false,[]⟩:=by unfold bg; rw[show (0:Int).natAbs=0 from rfl,zaB]; rfl
theorem zo3 (neg:Bool):sg neg 0=0:=by cases neg<;>rfl
theorem zAy (z:Int):sg (decide (z < 0)) z.natAbs=z:=by
  by_cases h:z < 0
  · rw[decide_eq_true h]; simp only[sg,cond_true]; omega
  · rw[decide_eq_false h]; simp only[sg,cond_false]; omega
theorem zhp {m:Nat}:(((dg m).length:Int)==0)=decide (m=0):=by
  by_cases h:m=0
  · subst h; simp[zaB]
  · have hn:dg m≠[]:=fun e=>h (zfY.1 e)
    have:=List.length_pos_iff.2 hn
    rw[decide_eq_false h,beq_eq_false_iff_ne]; omega
theorem zrA {m:Nat}:decide (((dg m).length:Int) > 0)=decide (m≠0):=by
  by_cases h:m=0
  · subst h; simp[zaB]
  · have hn:dg m≠[]:=fun e=>h (zfY.1 e)
    have:=List.length_pos_iff.2 hn
    rw[decide_eq_true h,decide_eq_true_eq]; omega
theorem zcZ (neg:Bool) (m:Nat):zaO neg (dg m)=some (bg (sg neg m)):=by
  unfold zaO
  rw[zhp]
  by_cases h:m=0
  · subst h; rw[decide_eq_true rfl,cond_true,zo3,zqi]
  · rw[decide_eq_false h,cond_false,zEw h]
theorem zrd (neg:Bool) (m:Nat):zfE neg (dg m)=some (bg (sg neg m)):=zcZ neg m
theorem zgB {m:Nat} (h:(dg m).length≤1073741824):zdd (dg m)=some (dg m):=by
  have key:zfq (dg m) ((dg m).length:Int)=some (dg m,((dg m).length:Int),()):=by
    unfold zfq
    refine zaA ?_
    by_cases hm:m=0
    · subst hm; simp[zc7,zaB]
    · have hne:dg m≠[]:=fun e=>hm (zfY.1 e)
      have hp:=List.length_pos_iff.2 hne
      have h0:(dg m).getLast hne≠0:=by
        intro e
        have:=(zbU m).2
        rw[zqk,List.getLast?_eq_some_getLast hne,e] at this
        exact this rfl
      have h1:decide (((dg m).length:Int) > 0)=true:=by rw[decide_eq_true_eq]; omega
      have h2:((dg m).getLast hne==0)=false:=by rw[beq_eq_false_iff_ne]; exact h0
      simp only[zc7,h1,cond_true,zml hne h,Option.bind_some,h2,cond_false]
  unfold zdd
  rw[key,Option.bind_some]
  simp only[]
  rw[zkV _ _ (Nat.le_refl _),Option.bind_some,Int.toNat_natCast,show cut (dg m) 0 (dg m).length=dg m by simp[cut]]
theorem zE3 {m:Nat} (h:(dg m).length≤60):zfB (dg m)=some (dg m):=by
  unfold zfB
  rw[zgB (by omega),Option.bind_some]
  have:decide (((dg m).length:Int) > 60)=false:=by rw[decide_eq_false_iff_not]; omega
  rw[this,cond_false]
theorem zdj (neg:Bool) {m:Nat} (h:(dg m).length≤60):zav neg (dg m)=some (bg (sg neg m)):=by
  unfold zav
  rw[zE3 h,Option.bind_some,room (by omega)]
  simp only[Option.bind_some,zrA]
  by_cases hm:m=0
  · subst hm; rw[zo3,zqi,zaB]; cases neg<;>rfl
  · rw[zEw hm,decide_eq_true hm]; cases neg<;>rfl
theorem zoi {m n k:Nat} (hm:(dg m).length≤k) (hn:(dg n).length≤k):(dg (m+n)).length≤k+1:=by
  rw[zfb] at *
  rw[zel]
  have:((m+n:Nat):Int)=(m:Int)+n:=by omega
  omega
theorem zm9 {x y:Int} (hx:(dg x.natAbs).length≤1073740000) (hy:(dg y.natAbs).length≤1073740000):zdO (bg x) (bg y)=some (bg (x+y)):=by
  unfold zdO bg
  simp only[]
  by_cases h:decide (x < 0)=decide (y < 0)
  · have:(decide (x < 0)==decide (y < 0))=true:=by simpa using h
    rw[this,cond_true,zv2 hx hy,Option.bind_some,zcZ,Option.bind_some]
    have e:sg (decide (x < 0)) (x.natAbs+y.natAbs)=x+y:=by
      by_cases hx0:x < 0
      · rw[decide_eq_true hx0]; rw[decide_eq_true hx0] at h; have:=of_decide_eq_true h.symm; simp only[sg,cond_true]; omega
      · rw[decide_eq_false hx0]; rw[decide_eq_false hx0] at h; have:=of_decide_eq_false h.symm; simp only[sg,cond_false]; omega
    rw[e]; rfl
  · have : (decide (x < 0)==decide (y < 0))=false:=by simpa using h
    have hcmp:=zv1 (zbU x.natAbs) (zbU y.natAbs) (by omega)
    rw[zcv,zcv] at hcmp
    rw[this,cond_false,hcmp,Option.bind_some,zD3]
    by_cases hge:y.natAbs≤x.natAbs
    · rw [decide_eq_true (show ((y.natAbs:Nat):Int)≤x.natAbs by omega),cond_true,zvZ hx hge,Option.bind_some,zcZ,Option.bind_some]
      have e:sg (decide (x < 0)) (x.natAbs - y.natAbs)=x+y:=by
        by_cases hx0:x < 0
        · rw[decide_eq_true hx0]; simp only[sg,cond_true]; simp[hx0] at h; omega
        · rw[decide_eq_false hx0]; simp only[sg,cond_false]; simp[hx0] at h; omega
      rw[e]; rfl
    · rw [decide_eq_false (show ¬ ((y.natAbs:Nat):Int)≤x.natAbs by omega),cond_false,zvZ hy (by omega),Option.bind_some,zcZ,Option.bind_some]
      have e:sg (decide (y < 0)) (y.natAbs - x.natAbs)=x+y:=by
        by_cases hx0:x < 0
        · simp[hx0] at h; rw[decide_eq_false (by omega)]; simp only[sg,cond_false]; omega
        · simp[hx0] at h; rw[decide_eq_true (by omega)]; simp only[sg,cond_true]; omega
      rw[e]; rfl
theorem zmz {x y:Int} (hx:(dg x.natAbs).length≤59) (hy:(dg y.natAbs).length≤59):zco (bg x) (bg y)=some (bg (x+y)):=by
  unfold zco bg
  simp only[]
  by_cases h:decide (x < 0)=decide (y < 0)
  · have:(decide (x < 0)==decide (y < 0))=true:=by simpa using h
    rw[this,cond_true,spec_add (by omega) (by omega),Option.bind_some,zdj _ (zoi hx hy),Option.bind_some]
    have e:sg (decide (x < 0)) (x.natAbs+y.natAbs)=x+y:=by
      by_cases hx0:x < 0
      · rw[decide_eq_true hx0]; rw[decide_eq_true hx0] at h; have:=of_decide_eq_true h.symm; simp only[sg,cond_true]; omega
      · rw[decide_eq_false hx0]; rw[decide_eq_false hx0] at h; have:=of_decide_eq_false h.symm; simp only[sg,cond_false]; omega
    rw[e]; rfl
  · have : (decide (x < 0)==decide (y < 0))=false:=by simpa using h
    have hcmp:=zmd (zbU x.natAbs) (zbU y.natAbs) (by omega)
    rw[zcv,zcv] at hcmp
    rw[this,cond_false,hcmp,Option.bind_some,zD3]
    by_cases hge:y.natAbs≤x.natAbs
    · rw [decide_eq_true (show ((y.natAbs:Nat):Int)≤x.natAbs by omega),cond_true,zoY (by omega) hge,Option.bind_some,zdj _ (Nat.le_trans (zbN (Nat.sub_le ..)) (by omega)),Option.bind_some]
      have e:sg (decide (x < 0)) (x.natAbs - y.natAbs)=x+y:=by
        by_cases hx0:x < 0
        · rw[decide_eq_true hx0]; simp only[sg,cond_true]; simp[hx0] at h; omega
        · rw[decide_eq_false hx0]; simp only[sg,cond_false]; simp[hx0] at h; omega
      rw[e]; rfl
    · rw [decide_eq_false (show ¬ ((y.natAbs:Nat):Int)≤x.natAbs by omega),cond_false,zoY (by omega) (by omega),Option.bind_some,zdj _ (Nat.le_trans (zbN (Nat.sub_le ..)) (by omega)),Option.bind_some]
      have e:sg (decide (y < 0)) (y.natAbs - x.natAbs)=x+y:=by
        by_cases hx0:x < 0
        · simp[hx0] at h; rw[decide_eq_false (by omega)]; simp only[sg,cond_false]; omega
        · simp[hx0] at h; rw[decide_eq_true (by omega)]; simp only[sg,cond_true]; omega
      rw[e]; rfl
theorem zAS (x y:Int):sg (!(decide (x < 0)==decide (y < 0))) (x.natAbs * y.natAbs)=x * y:=by
  rw[← Int.natAbs_mul]
  by_cases hx:x < 0
  · by_cases hy:y < 0
    · have:=Int.mul_pos_of_neg_of_neg hx hy
      rw[decide_eq_true hx,decide_eq_true hy]; simp only[sg]; simp; omega
    · rw[decide_eq_true hx,decide_eq_false hy]
      have:=Int.mul_nonpos_of_nonpos_of_nonneg (show x≤0 by omega) (show 0≤y by omega)
      simp only[sg]; simp; omega
  · by_cases hy:y < 0
    · rw[decide_eq_false hx,decide_eq_true hy]
      have:=Int.mul_nonpos_of_nonneg_of_nonpos (show 0≤x by omega) (show y≤0 by omega)
      simp only[sg]; simp; omega
    · rw[decide_eq_false hx,decide_eq_false hy]
      have:=Int.mul_nonneg (show 0≤x by omega) (show 0≤y by omega)
      simp only[sg]; simp; omega
theorem zhi {x y:Int} (hx:(dg x.natAbs).length≤500000000) (hy:(dg y.natAbs).length≤500000000):zbB (bg x) (bg y)=some (bg (x * y)):=by
  unfold zbB bg
  simp only[]
  rw[ziE hx hy,Option.bind_some,zcZ,Option.bind_some,zAS]; rfl
theorem zuB {x:Int} (hx:(dg x.natAbs).length≤500000000):zeJ (bg x)=some (bg (-x)):=by
  unfold zeJ bg
  simp only[]
  rw[zfT (by omega),Option.bind_some,zcZ,Option.bind_some]
  have e:sg (!decide (x < 0)) x.natAbs = -x:=by
    by_cases h:x < 0
    · rw[decide_eq_true h]; simp only[sg,Bool.not_true,cond_false]; omega
    · rw[decide_eq_false h]; simp only[sg,Bool.not_false,cond_true]; omega
  rw[e]; rfl
/-! ### Fractions -/
def rq (q:Rat):Rt:=⟨decide (q.num < 0),dg q.num.natAbs,dg q.den⟩
def Fit (q:Rat):Prop:=(dg q.num.natAbs).length≤24∧(dg q.den).length≤24
instance (q:Rat):Decidable (Fit q):=by unfold Fit; infer_instance
def ro:Option Rat→Rt
  | none=>⟨false,[],[]⟩
  | some q=>rq q
def chk (q:Rat):Option Rat:=if Fit q then some q else none
def Oks (o:Option Rat):Prop:=∀ q,o=some q→Fit q
theorem zpe (q:Rat):Oks (chk q):=fun r h=>by
  unfold chk at h
  split at h
  · rename_i hf; cases h; exact hf
  · cases h
theorem zvM:Oks none:=fun q h=>by cases h
theorem Fit.ok {q:Rat} (h:Fit q):Oks (some q):=fun r hr=>by cases hr; exact h
theorem zgt {q:Rat} (h:Fit q):chk q=some q:=by unfold chk; rw[if_pos h]
theorem zL2 {q:Rat} (h:¬ Fit q):chk q=none:=by unfold chk; rw[if_neg h]
theorem ziz {o:Option Rat} {f:Rat→Option Rat} (h:∀ q,Oks (f q)):Oks (o.bind f):=by
  cases o with
  | none=>exact zvM
  | some q=>exact h q
theorem zko (z:Int) {d:Nat} (hd:d≠0):(mkRat z d).num=z / (Nat.gcd z.natAbs d:Nat)∧(mkRat z d).den=d / Nat.gcd z.natAbs d:=by
  rw[Rat.mkRat_def,dif_neg hd,Rat.normalize_eq]
  exact ⟨rfl,rfl⟩
theorem zBs (z:Int) {d:Nat} (hd:d≠0):(mkRat z d).num.natAbs=z.natAbs / Nat.gcd z.natAbs d:=by
  rw[(zko z hd).1]
  have h1:(Nat.gcd z.natAbs d:Nat) ∣ z.natAbs:=Nat.gcd_dvd_left ..
  rw[Int.natAbs_ediv_of_dvd (Int.ofNat_dvd_left.2 h1)]; rfl
theorem zKC (z:Int) {d:Nat} (hd:d≠0):decide ((mkRat z d).num < 0)=decide (z < 0):=by
  rw[(zko z hd).1]
  have hg:0 < Nat.gcd z.natAbs d:=Nat.gcd_pos_of_pos_right _ (by omega)
  have h1:((Nat.gcd z.natAbs d:Nat):Int) ∣ z:=Int.ofNat_dvd_left.2 (Nat.gcd_dvd_left ..)
  obtain ⟨c,hc⟩:=h1
  generalize Nat.gcd z.natAbs d=g at *
  rw[hc,Int.mul_ediv_cancel_left _ (by omega)]
  congr 1
  apply propext
  constructor
  · intro h; exact Int.mul_neg_of_pos_of_neg (by omega) h
  · intro h
    rcases Int.lt_or_le c 0 with h2 | h2
    · exact h2
    · have:=Int.mul_nonneg (show (0:Int)≤g by omega) h2; omega
theorem zPg (z:Int) {d:Nat} (hd:d≠0):rq (mkRat z d)=⟨decide (z < 0),dg (z.natAbs / Nat.gcd z.natAbs d),dg (d / Nat.gcd z.natAbs d)⟩:=by
  unfold rq
  rw[zKC z hd,zBs z hd,(zko z hd).2]
theorem zJR (z:Int) {d:Nat} (hd:d≠0):Fit (mkRat z d)↔(dg (z.natAbs / Nat.gcd z.natAbs d)).length≤24∧(dg (d / Nat.gcd z.natAbs d)).length≤24:=by
  unfold Fit
  rw[zBs z hd,(zko z hd).2]
theorem zho:dg 1=[1]:=zrz (by omega) (by omega)
theorem zKq:rq 0=⟨false,[],[1]⟩:=by
  unfold rq
  have h1:(0:Rat).num=0:=rfl
  have h2:(0:Rat).den=1:=rfl
  rw[h1,h2,show (0:Int).natAbs=0 from rfl,zaB,zho]; rfl
theorem zkv:Fit 0:=by
  unfold Fit
  have h1:(0:Rat).num=0:=rfl
  have h2:(0:Rat).den=1:=rfl
  rw[h1,h2,show (0:Int).natAbs=0 from rfl,zaB,zho]; simp
theorem zqH {m:Nat}:(cond (((dg m).length:Int)==1) ((idx (dg m) 0).bind fun e=>some (e==1)) (some false))=some (decide (m=1)):=by
  by_cases h1:(dg m).length=1
  · have hb:(((dg m).length:Int)==1)=true:=by rw[h1]; rfl
    obtain ⟨_,_,e⟩:=zvK h1
    rw[hb,cond_true,e,show ((0:Int)=((0:Nat):Int)) from rfl,zeW (x:=(m:Int)) (by rfl),Option.bind_some]
    congr 1
    rw[Bool.eq_iff_iff]; simp; omega
  · have hb:(((dg m).length:Int)==1)=false:=by rw[beq_eq_false_iff_ne]; omega
    rw[hb,cond_false]
    have:m≠1:=by rintro rfl; rw[zho] at h1; exact h1 rfl
    rw[decide_eq_false this]
theorem zop (m:Nat):zfj (dg m)=some (decide (m=1)):=zqH
theorem zd7 (m:Nat):zc2 (dg m)=some (decide (m=1)):=zqH
theorem zEV {xs:List Int}:decide ((xs.length:Int) > 24)=!decide (xs.length≤24):=by
  rw[Bool.eq_iff_iff]; simp; omega
theorem zLG {p q:Prop} [Decidable p] [Decidable q] {α:Type} {a b:α}:cond (!decide p) a (cond (!decide q) a b)=if p∧q then b else a:=by
  by_cases hp:p<;>by_cases hq:q<;>simp[hp,hq]
theorem zqA (z:Int) {d:Nat} (hd:d≠0):ro (chk (mkRat z d))=if (dg (z.natAbs / Nat.gcd z.natAbs d)).length≤24∧(dg (d / Nat.gcd z.natAbs d)).length≤24 then ⟨decide (z < 0),dg (z.natAbs / Nat.gcd z.natAbs d),dg (d / Nat.gcd z.natAbs d)⟩ else ⟨false,[],[]⟩:=by
  by_cases h:Fit (mkRat z d)
  · rw[zgt h,if_pos ((zJR z hd).1 h)]; exact zPg z hd
  · rw[zL2 h,if_neg (fun k=>h ((zJR z hd).2 k))]; rfl
theorem zfS {z:Int} {d:Nat} (hd:d≠0) (hz:(dg z.natAbs).length≤100000000) (hl:(dg d).length≤100000000):zbO (bg z) (dg d)=some (ro (chk (mkRat z d))):=by
  unfold zbO bg
  simp only[]
  rw[zhp]
  by_cases h0:z.natAbs=0
  · have:z=0:=by omega
    subst this
    rw[decide_eq_true h0,cond_true,Rat.zero_mkRat,zgt zkv]
    exact congrArg some zKq.symm
  · rw [decide_eq_false h0,cond_false,impl_gcd hl hz (by omega),Option.bind_some,zop,Option.bind_some,zqA z hd]
    have hg0:0 < Nat.gcd d z.natAbs:=Nat.gcd_pos_of_pos_left _ (by omega)
    rw[Nat.gcd_comm z.natAbs d]
    by_cases h1:Nat.gcd d z.natAbs=1
    · rw[decide_eq_true h1,Bool.not_true,cond_false,h1,Nat.div_one,Nat.div_one,zEV,zEV,zLG]
      split<;>rfl
    · have hgl:(dg (Nat.gcd d z.natAbs)).length≤100000000:=Nat.le_trans (zbN (Nat.gcd_le_left _ (by omega))) hl
      have hzne:z.natAbs / Nat.gcd d z.natAbs≠0:=by
        have:=Nat.div_pos (Nat.gcd_le_right (n:=z.natAbs) d (by omega)) hg0
        omega
      rw[decide_eq_false h1,Bool.not_false,cond_true,impl_div hz hgl hg0,Option.bind_some]
      simp only[]
      rw[impl_div hl hgl hg0,Option.bind_some]
      simp only[]
      rw[zcZ,Option.bind_some,zEw hzne,zEV,zEV,zLG]
      split<;>rfl
theorem zrf {z:Int} {d:Nat} (hd:d≠0) (hz:(dg z.natAbs).length≤100000000) (hl:(dg d).length≤100000000):zfF (bg z) (dg d)=some (ro (chk (mkRat z d))):=zfS hd hz hl
theorem zmc {neg:Bool} {m d:Nat} (hd:d≠0) (hz:(dg m).length≤100000000) (hl:(dg d).length≤100000000):zaS neg (dg m) (dg d)=some (ro (chk (mkRat (sg neg m) d))):=by
  unfold zaS
  rw[zgB (by omega),Option.bind_some,zgB (by omega),Option.bind_some,zhp,decide_eq_false hd,cond_false,zd7,Option.bind_some,zqA _ hd,zkh]
  have fin:∀ (p e:Nat),(m=0↔p=0)→((cond (decide (((dg p).length:Int) > 24)) (some (⟨false,([]:List Int),([]:List Int)⟩:Rt)) (cond (decide (((dg e).length:Int) > 24)) (some (⟨false,([]:List Int),([]:List Int)⟩:Rt)) ((zav neg (dg p)).bind fun r3=>(zaj (Nat.ble (dg e).length zan)).bind fun _=>some (⟨r3.neg,r3.mag,dg e⟩:Rt))))
      = some (if (dg p).length≤24∧(dg e).length≤24 then ⟨decide (sg neg m < 0),dg p,dg e⟩ else ⟨false,[],[]⟩)):=by
    intro p e hpm
    rw[zEV,zEV,zLG]
    by_cases hf:(dg p).length≤24∧(dg e).length≤24
    · rw [if_pos hf,if_pos hf,zdj neg (by omega),Option.bind_some,room (by omega),Option.bind_some]
      by_cases hp:p=0
      · subst hp; have:=hpm.2 rfl; subst this; rw[zo3,zqi,zaB]; rfl
      · have hm:m≠0:=fun e=>hp (hpm.1 e)
        rw[zEw hp,zvx hm]
    · rw[if_neg hf,if_neg hf]
  by_cases h1:d=1
  · rw[decide_eq_true h1,Bool.not_true,cond_false]
    subst h1
    rw[Nat.gcd_one_right,Nat.div_one,Nat.div_one]
    exact fin m 1 Iff.rfl
  · have hg0:0 < Nat.gcd m d:=Nat.gcd_pos_of_pos_right _ (by omega)
    rw[decide_eq_false h1,Bool.not_false,cond_true,spec_gcd hz hl,Option.bind_some,zd7,Option.bind_some]
    by_cases h2:Nat.gcd m d=1
    · rw[decide_eq_true h2,Bool.not_true,cond_false,h2,Nat.div_one,Nat.div_one]
      exact fin m d Iff.rfl
    · have hgl:(dg (Nat.gcd m d)).length≤100000000:=Nat.le_trans (zbN (Nat.gcd_le_right _ (by omega))) hl
      rw[decide_eq_false h2,Bool.not_false,cond_true,zoZ hz hgl hg0,Option.bind_some]
      simp only[]
      rw[zoZ hl hgl hg0,Option.bind_some]
      simp only[]
      refine fin _ _ ⟨fun e=>by rw[e,Nat.zero_div],fun e=>?_⟩
      rcases Nat.eq_zero_or_pos m with h | h
      · exact h
      · have:=Nat.div_pos (Nat.gcd_le_left (m:=m) d h) hg0; omega
theorem zgC {neg:Bool} {m:Nat} (hz:(dg m).length≤100000000):zaS neg (dg m) (dg 0)=some (ro none):=by
  unfold zaS
  rw[zgB (by omega),Option.bind_some,zgB (by rw[zaB]; simp),Option.bind_some,zhp,decide_eq_true rfl,cond_true]; rfl
end Go.Di
namespace Go.Di
def zO7 (o p:Option Rat):Option Rat:=o.bind fun q=>p.bind fun r=>chk (q+r)
def zl6 (o p:Option Rat):Option Rat:=o.bind fun q=>p.bind fun r=>chk (q * r)
def divO (o p:Option Rat):Option Rat:=o.bind fun q=>p.bind fun r=>if r=0 then none else chk (q / r)
def zO1 (o:Option Rat):Option Rat:=o.map fun q => -q
def zoX (o p:Option Rat):Option Rat:=zO7 o (zO1 p)
theorem zFp {o p:Option Rat}:Oks (zO7 o p):=ziz fun _=>ziz fun _=>zpe _
theorem zvO {o p:Option Rat}:Oks (zl6 o p):=ziz fun _=>ziz fun _=>zpe _
theorem zvL {o p:Option Rat}:Oks (zoX o p):=zFp
theorem zFo {o p:Option Rat}:Oks (divO o p):=ziz fun _=>ziz fun r=>by
  split
  · exact zvM
  · exact zpe _
theorem zLP {q:Rat} (h:Fit q):Fit (-q):=by
  unfold Fit at *
  rw[show (-q).num = -q.num from rfl,show (-q).den=q.den from rfl,Int.natAbs_neg]; exact h
theorem zvN {o:Option Rat} (h:Oks o):Oks (zO1 o):=fun q hq=>by
  cases o with
  | none=>cases hq
  | some r=>cases hq; exact zLP (h r rfl)
theorem zeS:ro none=⟨false,dg 0,dg 0⟩:=by rw[zaB]; rfl
theorem zkk {o:Option Rat} (h:Oks o):(ro o).den.length≤24:=by
  cases o with
  | none=>simp[ro]
  | some q=>exact (h q rfl).2
theorem zmG {o:Option Rat} (h:Oks o):(ro o).mag.length≤24:=by
  cases o with
  | none=>simp[ro]
  | some q=>exact (h q rfl).1
theorem zJx {o:Option Rat} (h:Oks o):(ro o).fit:=⟨by have:=zmG h; omega,by have:=zkk h; omega⟩
theorem zwe (o:Option Rat):(((ro o).den.length:Int)==0)=o.isNone:=by
  cases o with
  | none=>rfl
  | some q =>
    show (((dg q.den).length:Int)==0)=false
    rw[zhp,decide_eq_false q.den_nz]
theorem zef (o:Option Rat):zbz (ro o)=some o.isNone:=by unfold zbz; rw[zwe]
theorem zmW (a b:Rat) (h:a.den=b.den):mkRat (a.num+b.num) a.den=a+b:=by
  rw[Rat.add_def',Rat.mkRat_eq_iff a.den_nz (Nat.mul_ne_zero a.den_nz b.den_nz),← h]
  simp only[Int.natCast_mul]
  grind
theorem zJH (a b:Rat):mkRat (a.num * b.den+b.num * a.den) (a.den * b.den)=a+b:=(Rat.add_def' a b).symm
theorem zBp (a b:Rat):mkRat (a.num * b.num) (a.den * b.den)=a * b:=(Rat.mul_def' a b).symm
theorem zBq (a b:Rat) (hb:b≠0):mkRat (a.num * sg (decide (b.num < 0)) b.den) (a.den * b.num.natAbs)=a / b:=by
  have hn:b.num≠0:=fun h=>hb (Rat.num_eq_zero.1 h)
  have hd:a.den * b.num.natAbs≠0:=Nat.mul_ne_zero a.den_nz (by omega)
  have key:mkRat (a.num * sg (decide (b.num < 0)) b.den) (a.den * b.num.natAbs) * b=a:=by
    have e1:b=mkRat b.num b.den:=(Rat.mkRat_self b).symm
    have e2:a=mkRat a.num a.den:=(Rat.mkRat_self a).symm
    rw[e1,Rat.mkRat_mul_mkRat,e2,Rat.mkRat_eq_iff (Nat.mul_ne_zero (by rw[Rat.mkRat_self,Rat.mkRat_self]; exact hd) b.den_nz) a.den_nz]
    simp only[Rat.mkRat_self]
    have hs:sg (decide (b.num < 0)) b.den * b.num=(b.den:Int) * (b.num.natAbs:Int):=by
      by_cases h:b.num < 0
      · rw[decide_eq_true h]; simp only[sg,cond_true]
        have:((b.num.natAbs:Nat):Int) = -b.num:=by omega
        rw[this]; grind
      · rw[decide_eq_false h]; simp only[sg,cond_false]
        have:((b.num.natAbs:Nat):Int)=b.num:=by omega
        rw[this]
    simp only[Int.natCast_mul]
    grind
  generalize mkRat (a.num * sg (decide (b.num < 0)) b.den) (a.den * b.num.natAbs)=x at *
  rw[← key,Rat.mul_div_cancel hb]
theorem zeR {a b:Nat} (ha:(dg a).length≤24) (hb:(dg b).length≤24):(dg (a * b)).length≤48:=by have:=ziD a b; omega
theorem zJV {n:Nat}:bg (n:Int)=⟨false,dg n⟩:=by
  unfold bg
  rw[decide_eq_false (by omega),Int.natAbs_natCast]
theorem zkf {x:Int} {b:Nat} (ha:(dg x.natAbs).length≤24) (hb:(dg b).length≤24):(dg (x * (b:Int)).natAbs).length≤48:=by
  rw[Int.natAbs_mul,Int.natAbs_natCast]; exact zeR ha hb
theorem zkg {x y:Int} {k:Nat} (ha:(dg x.natAbs).length≤k) (hb:(dg y.natAbs).length≤k):(dg (x+y).natAbs).length≤k+1 :=
  Nat.le_trans (zbN (show (x+y).natAbs≤x.natAbs+y.natAbs by omega)) (zoi ha hb)
theorem zDi {o p:Option Rat} (ho:Oks o) (hp:Oks p):zju (ro o) (ro p)=some (ro (zO7 o p)):=by
  unfold zju
  rw[zef,zef]
  cases o with
  | none=>rfl
  | some q =>
    cases p with
    | none=>rfl
    | some r =>
      have fq:=ho q rfl
      have fr:=hp r rfl
      simp only[Option.isNone_some,Option.bind_some,cond_false]
      rw[zDg (by have:=zkk ho; omega),Option.bind_some]
      show cond _ ((zdO (bg q.num) (bg r.num)).bind _) ((zbB (bg q.num) ⟨false,dg r.den⟩).bind fun r4=>(zbB (bg r.num) ⟨false,dg q.den⟩).bind _)=_
      by_cases h:q.den=r.den
      · have:eqB (ro (some q)).den (ro (some r)).den=true:=zd4.2 (congrArg dg h)
        rw[this,cond_true,zm9 (by have:=fq.1; omega) (by have:=fr.1; omega),Option.bind_some,zfT (by have:=zkk ho; omega),Option.bind_some]
        show (zbO (bg (q.num+r.num)) (dg q.den)).bind _=_
        rw[zfS q.den_nz (by have:=zkg fq.1 fr.1; omega) (by have:=fq.2; omega),Option.bind_some,zmW q r h]; rfl
      · have:eqB (ro (some q)).den (ro (some r)).den=false:=zkw.2 fun e=>h (zNX e)
        rw[this,cond_false,← zJV,← zJV,zhi (by have:=fq.1; omega) (by have:=fr.2; rw[Int.natAbs_natCast]; omega),Option.bind_some,zhi (by have:=fr.1; omega) (by have:=fq.2; rw[Int.natAbs_natCast]; omega),Option.bind_some]
        have h1:=zkf fq.1 fr.2
        have h2:=zkf fr.1 fq.2
        rw[zm9 (by omega) (by omega),Option.bind_some]
        show ((zbf (dg q.den) (dg r.den)).bind _)=_
        have h3:=zeR fq.2 fr.2
        have h4:=zkg h1 h2
        rw[ziE (by have:=fq.2; omega) (by have:=fr.2; omega),Option.bind_some,zfS (Nat.mul_ne_zero q.den_nz r.den_nz) (by omega) (by omega),Option.bind_some,zJH]; rfl
theorem zDe {o p:Option Rat} (ho:Oks o) (hp:Oks p):zec (ro o) (ro p)=some (ro (zl6 o p)):=by
  unfold zec
  rw[zef,zef]
  cases o with
  | none=>rfl
  | some q =>
    cases p with
    | none=>rfl
    | some r =>
      have fq:=ho q rfl
      have fr:=hp r rfl
      simp only[Option.isNone_some,Option.bind_some,cond_false]
      show ((zbB (bg q.num) (bg r.num)).bind fun r3=>(zbf (dg q.den) (dg r.den)).bind _)=_
      have h3:=zeR fq.2 fr.2
      have h4:=zeR fq.1 fr.1
      rw[zhi (by have:=fq.1; omega) (by have:=fr.1; omega),Option.bind_some,ziE (by have:=fq.2; omega) (by have:=fr.2; omega),Option.bind_some,zfS (Nat.mul_ne_zero q.den_nz r.den_nz) (by rw[Int.natAbs_mul]; omega) (by omega),Option.bind_some,zBp]; rfl
theorem impl_divO {o p:Option Rat} (ho:Oks o) (hp:Oks p):zfN (ro o) (ro p)=some (ro (divO o p)):=by
  unfold zfN
  rw[zef,zef]
  cases o with
  | none=>rfl
  | some q =>
    cases p with
    | none=>rfl
    | some r =>
      have fq:=ho q rfl
      have fr:=hp r rfl
      simp only[Option.isNone_some,Option.bind_some,cond_false]
      have hl:(((ro (some r)).mag.length:Int)==0)=decide (r.num.natAbs=0):=zhp
      rw[hl]
      by_cases h0:r=0
      · have:r.num.natAbs=0:=by rw[h0]; rfl
        rw[decide_eq_true this,cond_true]
        simp[divO,h0,ro]
      · have hn:r.num.natAbs≠0:=fun h=>h0 (Rat.num_eq_zero.1 (by omega))
        rw[decide_eq_false hn,cond_false]
        unfold zec
        rw[zef]
        simp only[Option.isNone_some,Option.bind_some,cond_false]
        have hv:zbz (⟨(ro (some r)).neg,(ro (some r)).den,(ro (some r)).mag⟩:Rt)=some false:=by
          unfold zbz
          rw[show ((((⟨(ro (some r)).neg,(ro (some r)).den,(ro (some r)).mag⟩:Rt).den.length:Nat):Int)==0)=decide (r.num.natAbs=0) from zhp,decide_eq_false hn]
        rw[hv,Option.bind_some,cond_false]
        have hb:(⟨(ro (some r)).neg,(ro (some r)).den⟩:Bg)=bg (sg (decide (r.num < 0)) r.den):=(zEw r.den_nz).symm
        show (((zbB (bg q.num) ⟨(ro (some r)).neg,(ro (some r)).den⟩).bind fun r3=>(zbf (dg q.den) (dg r.num.natAbs)).bind fun r4=>_).bind _)=_
        rw[hb]
        have h3:=zeR fq.2 fr.1
        have h4:=zeR fq.1 fr.2
        rw[zhi (by have:=fq.1; omega) (by have:=fr.2; rw[zkh]; omega),Option.bind_some,ziE (by have:=fq.2; omega) (by have:=fr.1; omega),Option.bind_some,zfS (Nat.mul_ne_zero q.den_nz hn) (by rw[Int.natAbs_mul,zkh]; omega) (by omega),Option.bind_some,Option.bind_some,zBq q r h0]
        simp[divO,h0]
theorem zDd {o:Option Rat} (ho:Oks o):zjt (ro o)=some (ro (zO1 o)):=by
  unfold zjt
  rw[zef]
  cases o with
  | none=>rfl
  | some q =>
    have fq:=ho q rfl
    simp only[Option.isNone_some,Option.bind_some,cond_false]
    show ((zeJ (bg q.num)).bind fun r2=>(zaQ (dg q.den)).bind _)=_
    rw[zuB (by have:=fq.1; omega),Option.bind_some,zfT (by have:=fq.2; omega),Option.bind_some]
    show some (⟨decide (-q.num < 0),dg (-q.num).natAbs,dg q.den⟩:Rt)=some ⟨decide ((-q).num < 0),dg (-q).num.natAbs,dg (-q).den⟩
    rfl
theorem zDc {o p:Option Rat} (ho:Oks o) (hp:Oks p):zgV (ro o) (ro p)=some (ro (zoX o p)):=by
  unfold zgV
  rw[zDd hp,Option.bind_some,zDi ho (zvN hp)]; rfl
/-! ### The reference's -/
theorem zAo {o p:Option Rat} (ho:Oks o) (hp:Oks p):zes (ro o) (ro p)=some (ro (zl6 o p)):=by
  unfold zes
  have hom:=zmG ho
  have hpm:=zmG hp
  have hod:=zkk ho
  have hpd:=zkk hp
  cases o with
  | none =>
    obtain ⟨m,d,e1,e2⟩:∃ m d:Nat,(ro p).mag=dg m∧(ro p).den=dg d:=by
      cases p with
      | none=>exact ⟨0,0,zaB.symm,zaB.symm⟩
      | some r=>exact ⟨_,_,rfl,rfl⟩
    rw[e1] at hpm; rw[e2] at hpd
    rw[zeS,e1,e2]
    rw[zcl (by rw[zaB]; simp) (by omega),Option.bind_some,zcl (by rw[zaB]; simp) (by omega),Option.bind_some,Nat.zero_mul,Nat.zero_mul,zgC (by rw[zaB]; simp),Option.bind_some]; rfl
  | some q =>
    cases p with
    | none =>
      have fq:=ho q rfl
      rw[zeS]
      show ((zat (dg q.num.natAbs) (dg 0)).bind fun r1=>(zat (dg q.den) (dg 0)).bind _)=_
      rw[zcl (by have:=fq.1; omega) (by rw[zaB]; simp),Option.bind_some,zcl (by have:=fq.2; omega) (by rw[zaB]; simp),Option.bind_some,Nat.mul_zero,Nat.mul_zero,zgC (by rw[zaB]; simp),Option.bind_some]; rfl
    | some r =>
      have fq:=ho q rfl
      have fr:=hp r rfl
      have h3:=zeR fq.2 fr.2
      have h4:=zeR fq.1 fr.1
      show ((zat (dg q.num.natAbs) (dg r.num.natAbs)).bind fun r1=>(zat (dg q.den) (dg r.den)).bind fun r2=>(zaS (!(decide (q.num < 0)==decide (r.num < 0))) r1 r2).bind _)=_
      rw[zcl (by have:=fq.1; omega) (by have:=fr.1; omega),Option.bind_some,zcl (by have:=fq.2; omega) (by have:=fr.2; omega),Option.bind_some,zmc (Nat.mul_ne_zero q.den_nz r.den_nz) (by omega) (by omega),Option.bind_some,zAS,zBp]; rfl
theorem zvw (x:Int) (d:Nat):sg (decide (x < 0)) (x.natAbs * d)=x * d:=by
  by_cases h:x < 0
  · rw [decide_eq_true h]; simp only[sg,cond_true]
    have:((x.natAbs * d:Nat):Int)=(-x) * d:=by
      rw[Int.natCast_mul]; congr 1; omega
    rw[this]; grind
  · rw[decide_eq_false h]; simp only[sg,cond_false]
    rw[Int.natCast_mul]; congr 1; omega
theorem spec_addO {o p:Option Rat} (ho:Oks o) (hp:Oks p):zdK (ro o) (ro p)=some (ro (zO7 o p)):=by
  have hom:=zmG ho
  have hpm:=zmG hp
  have hod:=zkk ho
  have hpd:=zkk hp
  -- the long way, for any two values
  have long:∀ (x y:Int) (d e:Nat),(dg x.natAbs).length≤24→(dg y.natAbs).length≤24→(dg d).length≤24→(dg e).length≤24 →
      ((zat (dg x.natAbs) (dg e)).bind fun r2 =>
      (zav (decide (x < 0)) r2).bind fun r3 =>
      (zat (dg y.natAbs) (dg d)).bind fun r4 =>
      (zav (decide (y < 0)) r4).bind fun r5 =>
      (zco r3 r5).bind fun r6 =>
      (zat (dg d) (dg e)).bind fun r7 =>
      (zaS r6.neg r6.mag r7).bind fun r8 =>
      some r8)=some (if d * e=0 then ro none else ro (chk (mkRat (x * e+y * d) (d * e)))):=by
    intro x y d e hx hy hd he
    have h1:=zeR hx he
    have h2:=zeR hy hd
    have h3:=zeR hd he
    rw[zcl (by omega) (by omega),Option.bind_some,zdj _ (by omega),Option.bind_some,zcl (by omega) (by omega),Option.bind_some,zdj _ (by omega),Option.bind_some,zvw,zvw]
    have h4:=zkf hx he
    have h5:=zkf hy hd
    have h6:=zkg h4 h5
    rw[zmz (by omega) (by omega),Option.bind_some,zcl (by omega) (by omega),Option.bind_some]
    show ((zaS (decide (x * e+y * d < 0)) (dg (x * e+y * d).natAbs) (dg (d * e))).bind fun r8=>some r8)=_
    by_cases h0:d * e=0
    · rw[h0,if_pos rfl,zgC (by omega)]; rfl
    · rw[if_neg h0,zmc h0 (by omega) (by omega),Option.bind_some,zAy]
  cases o with
  | none =>
    obtain ⟨y,d,e1,e2,e3⟩:∃ (y:Int) (d:Nat),(ro p).neg=decide (y < 0)∧(ro p).mag=dg y.natAbs∧(ro p).den=dg d:=by
      cases p with
      | none=>exact ⟨0,0,rfl,zaB.symm,zaB.symm⟩
      | some r=>exact ⟨_,_,rfl,rfl,rfl⟩
    rw[e2] at hpm; rw[e3] at hpd
    have hl:=long 0 y 0 d (by rw[show (0:Int).natAbs=0 from rfl,zaB]; simp) hpm (by rw[zaB]; simp) hpd
    rw[Nat.zero_mul,if_pos rfl] at hl
    unfold zdK
    rw[zeS,zd7,Option.bind_some,decide_eq_false (by omega),cond_false,e1,e2,e3]
    exact hl
  | some q =>
    have fq:=ho q rfl
    cases p with
    | none =>
      have hl:=long q.num 0 q.den 0 fq.1 (by rw[show (0:Int).natAbs=0 from rfl,zaB]; simp) fq.2 (by rw[zaB]; simp)
      rw[Nat.mul_zero,if_pos rfl] at hl
      unfold zdK
      rw[show (ro (some q)).den=dg q.den from rfl,zd7,Option.bind_some,zeS,zd7]
      cases decide (q.den=1) with
      | false=>exact hl
      | true=>simp only[cond_true,Option.bind_some,decide_eq_false (show ¬ (0:Nat)=1 by omega),cond_false]; exact hl
    | some r =>
      have fr:=hp r rfl
      have hl:=long q.num r.num q.den r.den fq.1 fr.1 fq.2 fr.2
      rw[if_neg (Nat.mul_ne_zero q.den_nz r.den_nz),zJH] at hl
      unfold zdK
      rw[show (ro (some q)).den=dg q.den from rfl,zd7,Option.bind_some,show (ro (some r)).den=dg r.den from rfl,zd7]
      by_cases hq1:q.den=1
      · rw [decide_eq_true hq1,cond_true,Option.bind_some]
        by_cases hr1:r.den=1
        · rw[decide_eq_true hr1,cond_true]
          show ((zco (bg q.num) (bg r.num)).bind _)=_
          have h6:=zkg fq.1 fr.1
          rw[zmz (by have:=fq.1; omega) (by have:=fr.1; omega),Option.bind_some,← zho]
          show ((zaS (decide (q.num+r.num < 0)) (dg (q.num+r.num).natAbs) (dg 1)).bind fun r8=>some r8)=_
          have:=zmW q r (by rw[hq1,hr1])
          rw[zmc (by omega) (by omega) (by rw[zho]; simp),Option.bind_some,zAy]
          rw[hq1] at this
          rw[this]; rfl
        · rw[decide_eq_false hr1,cond_false]; exact hl
      · rw[decide_eq_false hq1,cond_false]; exact hl
end Go.Di
namespace Go.Di
def Good (r:Rt):Prop:=∃ q:Rat,Fit q∧r=rq q
theorem Fit.good {q:Rat} (h:Fit q):Good (rq q):=⟨q,h,rfl⟩
theorem Good.ro {r:Rt} (h:Good r):∃ q:Rat,Fit q∧r=ro (some q):=h
def zMa (r:Rt):Prop:=zkb r.mag∧(r.mag≠[]∨r.neg=false)∧zkb r.den∧r.den≠[]∧r.mag.length≤24∧r.den.length≤24∧Nat.gcd (nv r.den).toNat (nv r.mag).toNat=1
theorem zv4 {r:Rt}:Good r↔zMa r:=by
  constructor
  · rintro ⟨q,hf,rfl⟩
    have h24:=hf.1
    have h24':=hf.2
    refine ⟨⟨zbU _,by show (dg q.num.natAbs).length≤60; omega⟩,?_,⟨zbU _,by show (dg q.den).length≤60; omega⟩,fun h=>q.den_nz (zfY.1 h),h24,h24',?_⟩
    · by_cases h:q.num < 0
      · left; intro e; have:=zfY.1 e; omega
      · right; exact decide_eq_false h
    · show Nat.gcd (nv (dg q.den)).toNat (nv (dg q.num.natAbs)).toNat=1
      rw[zcv,zcv,Int.toNat_natCast,Int.toNat_natCast,Nat.gcd_comm]; exact q.reduced
  · rintro ⟨⟨h1,_⟩,h2,⟨h3,_⟩,h4,h5,h6,h7⟩
    obtain ⟨neg,mag,den⟩:=r
    simp only at h1 h2 h3 h4 h5 h6 h7
    have e1:=h1.dg
    have e2:=h3.dg
    generalize (nv mag).toNat=m at *
    generalize (nv den).toNat=d at *
    subst e1; subst e2
    have hd:d≠0:=fun h=>h4 (by rw[h,zaB])
    let q:Rat:=Rat.mk' (sg neg m) d hd (by rw[zkh]; show Nat.gcd m d=1; rw[Nat.gcd_comm]; exact h7)
    refine ⟨q,⟨by show (dg (sg neg m).natAbs).length≤24; rw[zkh]; exact h5,h6⟩,?_⟩
    show _=(⟨decide (sg neg m < 0),dg (sg neg m).natAbs,dg d⟩:Rt)
    rw[zkh]
    by_cases hm:m=0
    · subst hm
      rcases h2 with h2 | h2
      · exact absurd zaB h2
      · rw[h2]; rfl
    · rw[zvx hm]
theorem zQt {a:List Int}:((a.length:Int)==0)=pB (a=[]):=by
  rw[Bool.eq_iff_iff,pB_iff]; simp
theorem zQs {a:List Int}:decide ((a.length:Int) > 0)=pB (a≠[]):=by
  rw[Bool.eq_iff_iff,pB_iff]; simp[List.length_pos_iff]
theorem zJE {p:Prop} [Decidable p]:pB p=decide p:=by rw[Bool.eq_iff_iff,pB_iff,decide_eq_true_iff]
theorem zJQ {d m:Nat} {x:Option (List Int)} (h:x=some (dg (Nat.gcd d m))) {k:List Int→Option Bool} (hk:∀ g:Nat,k (dg g)=some (decide (g=1))) :
    (x.bind fun r3=>(k r3).bind fun r4=>some r4)=some (decide (Nat.gcd d m=1)):=by
  rw[h,Option.bind_some,hk]; rfl
theorem impl_ratOk {r:Rt} (h:r.fit):zfk r=some (pB (Good r)):=by
  rw[zmh zv4]
  unfold zfk zcf
  rw[impl_natOk h.1,impl_natOk h.2,zQs,zQt,zEV,zEV]
  simp only[Option.bind_some]
  unfold zMa
  by_cases h1:zkb r.mag
  · rw [pB_iff.2 h1,cond_true]
    by_cases h2:r.mag≠[]∨r.neg=false
    · have hb : cond (pB (r.mag≠[])) (some true) (some (!r.neg))=some true:=by
        rcases h2 with h2 | h2
        · rw[pB_iff.2 h2]; rfl
        · rw[h2]; cases pB (r.mag≠[])<;>rfl
      rw[hb]
      simp only[Option.bind_some,Bool.not_true,cond_false]
      by_cases h3:zkb r.den
      · rw [pB_iff.2 h3]
        simp only[Bool.not_true,cond_false]
        by_cases h4:r.den=[]
        · rw[pB_iff.2 h4,cond_true]; symm; rw[pB_not.2 (fun k=>k.2.2.2.1 h4)]
        · rw [pB_not.2 h4,cond_false]
          by_cases h5:r.mag.length≤24
          · rw [decide_eq_true h5]
            simp only[Bool.not_true,cond_false]
            by_cases h6:r.den.length≤24
            · rw [decide_eq_true h6]
              simp only[Bool.not_true,cond_false]
              have e1:=h1.1.dg
              have e2:=h3.1.dg
              have hd0:0 < (nv r.den).toNat:=by
                rcases Nat.eq_zero_or_pos (nv r.den).toNat with h | h
                · rw[h,zaB] at e2; exact absurd e2 h4
                · exact h
              have hg:=impl_gcd (m:=(nv r.den).toNat) (n:=(nv r.mag).toNat) (by rw[← e2]; omega) (by rw[← e1]; omega) hd0
              rw[← e2,← e1] at hg
              rw[zJQ hg zop,← zJE]
              congr 1
              exact zmh ⟨fun h=>⟨h1,h2,h3,h4,h5,h6,h⟩,fun h=>h.2.2.2.2.2.2⟩
            · rw[decide_eq_false h6]; symm; rw[pB_not.2 (fun k=>h6 k.2.2.2.2.2.1)]; rfl
          · rw[decide_eq_false h5]; symm; rw[pB_not.2 (fun k=>h5 k.2.2.2.2.1)]; rfl
      · rw[pB_not.2 h3]; symm; rw[pB_not.2 (fun k=>h3 k.2.2.1)]; rfl
    · have hb:cond (pB (r.mag≠[])) (some true) (some (!r.neg))=some false:=by
        have h3:¬ r.mag≠[]:=fun h=>h2 (.inl h)
        have h4:r.neg=true:=by
          cases hn:r.neg with
          | true=>rfl
          | false=>exact absurd (.inr hn) h2
        rw[pB_not.2 h3,h4]; rfl
      rw[hb]; symm; rw[pB_not.2 (fun k=>h2 k.2.1)]; rfl
  · rw[pB_not.2 h1]; symm; rw[pB_not.2 (fun k=>h1 k.1)]; rfl
theorem spec_ratOk {r:Rt} (h:r.fit):zfi r=some (pB (Good r)):=by
  rw[zmh zv4]
  unfold zfi zf4
  rw[spec_natOk h.1,spec_natOk h.2,zQs,zQt,zEV,zEV]
  simp only[Option.bind_some]
  unfold zMa
  by_cases h1:zkb r.mag
  · rw [pB_iff.2 h1,cond_true]
    by_cases h2:r.mag≠[]∨r.neg=false
    · have hb : cond (!r.neg) (some true) (some (pB (r.mag≠[])))=some true:=by
        rcases h2 with h2 | h2
        · rw[pB_iff.2 h2]; cases r.neg<;>rfl
        · rw[h2]; rfl
      rw[hb]
      simp only[Option.bind_some,Bool.not_true,cond_false]
      by_cases h3:zkb r.den
      · rw [pB_iff.2 h3]
        simp only[Bool.not_true,cond_false]
        by_cases h4:r.den=[]
        · rw[pB_iff.2 h4,cond_true]; symm; rw[pB_not.2 (fun k=>k.2.2.2.1 h4)]
        · rw [pB_not.2 h4,cond_false]
          by_cases h6:r.den.length≤24
          · rw [decide_eq_true h6]
            simp only[Bool.not_true,cond_false]
            by_cases h5:r.mag.length≤24
            · rw[decide_eq_true h5]
              simp only[Bool.not_true,cond_false]
              have e1:=h1.1.dg
              have e2:=h3.1.dg
              have hg:=spec_gcd (m:=(nv r.mag).toNat) (n:=(nv r.den).toNat) (by rw[← e1]; omega) (by rw[← e2]; omega)
              rw[← e2,← e1] at hg
              rw[zJQ hg zd7,← zJE]
              congr 1
              exact zmh ⟨fun h=>⟨h1,h2,h3,h4,h5,h6,by rw[Nat.gcd_comm]; exact h⟩,fun h=>by rw[Nat.gcd_comm]; exact h.2.2.2.2.2.2⟩
            · rw[decide_eq_false h5]; symm; rw[pB_not.2 (fun k=>h5 k.2.2.2.2.1)]; rfl
          · rw[decide_eq_false h6]; symm; rw[pB_not.2 (fun k=>h6 k.2.2.2.2.2.1)]; rfl
      · rw[pB_not.2 h3]; symm; rw[pB_not.2 (fun k=>h3 k.2.2.1)]; rfl
    · have hb:cond (!r.neg) (some true) (some (pB (r.mag≠[])))=some false:=by
        have h3:¬ r.mag≠[]:=fun h=>h2 (.inl h)
        have h4:r.neg=true:=by
          cases hn:r.neg with
          | true=>rfl
          | false=>exact absurd (.inr hn) h2
        rw[pB_not.2 h3,h4]; rfl
      rw[hb]; symm; rw[pB_not.2 (fun k=>h2 k.2.1)]; rfl
  · rw[pB_not.2 h1]; symm; rw[pB_not.2 (fun k=>h1 k.1)]; rfl
theorem zLL {q:Rat} (h:Fit q):pB (Good (rq q))=true:=pB_iff.2 ⟨q,h,rfl⟩
/-! ### Whole numbers -/
theorem zoq {n:Int} (h1 : -9223372036854775808≤n) (h2:n≤9223372036854775807):zdB n=some (bg n):=by
  unfold zdB
  by_cases h:n ≥ 0
  · rw[decide_eq_true h,cond_true,zkW h2,Option.bind_some,zcZ,Option.bind_some]
    congr 2
    simp only[sg,cond_false]; omega
  · rw[decide_eq_false h,cond_false,wrap_i64 (n:=n+1) (by omega) (by omega),wrap_i64 (n:=0 - (n+1)) (by omega) (by omega),zkW (by omega),Option.bind_some,← zho]
    have hs:=zgK (show (0 - (n+1)).toNat≤9223372036854775807 by omega)
    rw[zv2 (by omega) (by rw[zho]; simp),Option.bind_some,zcZ,Option.bind_some]
    congr 2
    simp only[sg,cond_true]; omega
theorem zNb:([854775808,223372036,9]:List Int)=dg 9223372036854775808:=by
  refine zDB ⟨fun d hd=>?_,by simp[zqk]⟩ (by simp[nv])
  simp at hd
  omega
theorem zye {n:Int} (h1 : -9223372036854775808≤n) (h2:n≤9223372036854775807):zez n=some (bg n):=by
  unfold zez
  by_cases h:n = -9223372036854775808
  · have hb:(n == -9223372036854775808)=true:=by rw[beq_iff_eq]; exact h
    obtain ⟨K,hK,hKv⟩:∃ K:Nat,([854775808,223372036,9]:List Int)=dg K∧K=n.natAbs:=⟨_,zNb,by omega⟩
    have hl:(dg K).length≤60:=by rw[← hK]; simp
    rw[hb,cond_true,hK,zdj _ hl,Option.bind_some]
    congr 2
    simp only[sg,cond_true]; omega
  · have hb:(n == -9223372036854775808)=false:=by rw[beq_eq_false_iff_ne]; exact h
    rw[hb,cond_false]
    by_cases h0:n < 0
    · rw[decide_eq_true h0,cond_true,wrap_i64 (n:=0 - n) (by omega) (by omega),zeQ (by omega),Option.bind_some]
      have hs:=zgK (show (0 - n).toNat≤9223372036854775807 by omega)
      rw[zdj _ (by omega),Option.bind_some]
      congr 2
      simp only[sg,cond_true]; omega
    · rw[decide_eq_false h0,cond_false,zeQ h2,Option.bind_some]
      have hs:=zgK (show n.toNat≤9223372036854775807 by omega)
      rw[zdj _ (by omega),Option.bind_some]
      congr 2
      simp only[sg,cond_false]; omega
theorem zut {n:Int} (h1 : -9223372036854775808≤n) (h2:n≤9223372036854775807):(dg n.natAbs).length≤3:=zfb.2 (by simp[bp]; omega)
theorem zuJ {n:Int} (h1 : -9223372036854775808≤n) (h2:n≤9223372036854775807):Fit (n:Rat):=by
  unfold Fit
  rw[Rat.num_intCast,Rat.den_intCast,zho]
  exact ⟨by have:=zut h1 h2; omega,by simp⟩
theorem zM3 (n:Int):rq (n:Rat)=⟨(bg n).neg,(bg n).mag,[1]⟩:=by
  unfold rq bg
  rw[Rat.num_intCast,Rat.den_intCast,zho]
theorem zHY {z:Int} (h:(dg z.natAbs).length≤60):zkb (bg z).mag:=⟨zbU _,h⟩
theorem zrh {z:Int} (h:(dg z.natAbs).length≤60):zcf (bg z)=some true:=by
  unfold zcf
  rw[impl_natOk (by show (dg z.natAbs).length≤1048576; omega),pB_iff.2 (zHY h),Option.bind_some,cond_true]
  show cond (decide (((dg z.natAbs).length:Int) > 0)) (some true) (some (!decide (z < 0)))=some true
  rw[zrA]
  by_cases h0:z.natAbs≠0
  · rw[decide_eq_true h0]; rfl
  · rw[decide_eq_false h0,decide_eq_false (by omega)]; rfl
theorem zlY {r:Rt} (h:r.mag.length≤1048576∧r.den.length≤1048576):zdZ r=some r:=by
  unfold zdZ
  rw[zfT (by omega),Option.bind_some,zfT (by omega),Option.bind_some]
theorem zqs {r:Rt} (h:r.mag.length≤1048576∧r.den.length≤1048576):ze7 r=some r:=by
  unfold ze7
  rw[room (by omega),Option.bind_some,room (by omega),Option.bind_some]
theorem zKo (x y:Int) (hy:y≠0):mkRat (sg (!(decide (x < 0)==decide (y < 0))) x.natAbs) y.natAbs=(x:Rat) / (y:Rat):=by
  have hyr:(y:Rat)≠0:=by intro h; exact hy (Rat.intCast_inj.1 h)
  have hd:=zBq (x:Rat) (y:Rat) hyr
  rw[Rat.num_intCast,Rat.num_intCast,Rat.den_intCast,Rat.den_intCast,Nat.one_mul] at hd
  rw[← hd]
  congr 1
  by_cases h1:x < 0<;>by_cases h2:y < 0
  · rw[decide_eq_true h1,decide_eq_true h2]; simp only[sg,beq_self_eq_true,Bool.not_true,cond_true,cond_false]; omega
  · rw[decide_eq_true h1,decide_eq_false h2]; simp[sg]; omega
  · rw[decide_eq_false h1,decide_eq_true h2]; simp[sg]; omega
  · rw[decide_eq_false h1,decide_eq_false h2]; simp only[sg,beq_self_eq_true,Bool.not_true,cond_false]; omega
theorem zDf {x y:Int} (hx:(dg x.natAbs).length≤60) (hy:(dg y.natAbs).length≤60) (h0:y≠0):ze8 (bg x) (bg y)=some (ro (chk ((x:Rat) / (y:Rat)))):=by
  unfold ze8
  rw[zrh hx,Option.bind_some,zrh hy,Option.bind_some]
  simp only[Bool.not_true,cond_false]
  show cond (((dg y.natAbs).length:Int)==0) _ ((zfE (!(decide (x < 0)==decide (y < 0))) (dg x.natAbs)).bind fun r2=>(zfF r2 (dg y.natAbs)).bind _)=_
  rw[zhp,decide_eq_false (show ¬ y.natAbs=0 by omega),cond_false,zrd,Option.bind_some,zrf (by omega) (by rw[zkh]; omega) (by omega),Option.bind_some,zKo x y h0,zlY (zJx (zpe _)),Option.bind_some]
theorem zyV {x y:Int} (h1 : -9223372036854775808≤x) (h2:x≤9223372036854775807) (h3 : -9223372036854775808≤y) (h4:y≤9223372036854775807) (h0:y≠0):zgo x y=some (ro (chk ((x:Rat) / (y:Rat)))):=by
  unfold zgo
  have:=zut h1 h2
  have:=zut h3 h4
  rw[zoq h1 h2,Option.bind_some,zoq h3 h4,Option.bind_some,zDf (by omega) (by omega) h0,Option.bind_some]
theorem zuA {n:Int} (h1 : -9223372036854775808≤n) (h2:n≤9223372036854775807):zdP n=some (ro (some (n:Rat))):=by
  unfold zdP
  rw[zyV h1 h2 (by omega) (by omega) (by omega),Option.bind_some]
  have:(n:Rat) / ((1:Int):Rat)=(n:Rat):=by
    rw[Rat.intCast_one,Rat.div_def,Rat.inv_eq_of_mul_eq_one (a:=1) (b:=1) (Rat.mul_one 1),Rat.mul_one]
  rw[this,zgt (zuJ h1 h2)]
theorem zyU {n:Int} (h1 : -9223372036854775808≤n) (h2:n≤9223372036854775807):zeb n=some (ro (some (n:Rat))):=by
  unfold zeb
  rw[zuA h1 h2]; rfl
theorem ztf {n:Int} (h1 : -9223372036854775808≤n) (h2:n≤9223372036854775807):zcU n=some (ro (some (n:Rat))):=by
  unfold zcU
  rw[zye h1 h2,Option.bind_some]
  exact congrArg some (zM3 n).symm
end Go.Di
namespace Go.Di
/-! ### Names -/
theorem zEW {i n:Nat} (h:i < n) (hn:n≤4611686018427387904):IntKind.i64.wrap ((i:Int)+1)=((i+1:Nat):Int):=by
  rw[wrap_i64 (by omega) (by omega)]; simp
/-! ### Stations,matrices -/
def zge (r:Rt):Bool:=pB (Good r)
theorem zyd {l:List Rt} (h:znL Rt.fit l):whileO zbq (l,(l.length:Int),0,())=some (cond (l.all zge) (.inr ()) (.inl (false,()))):=by
  have key:=all_loopE (S:=zbq) (fun i=>(l,(l.length:Int),(i:Int),())) l.length (atB zge l) () (fun i hi=>by
    simp only[zbq,dlt hi,cond_true,zaL hi,Option.bind_some,spec_ratOk (h.2 _ (List.getElem_mem hi)),zas hi h.1,zjQ zge hi,zge]
    cases pB (Good l[i])<;>rfl) (by simp[zbq])
  rw[zfe] at key; exact key
theorem zyW {l:List Rt} (h:znL Rt.fit l):whileO zby (l,(l.length:Int),0,())=some (cond (l.all zge) (.inr ()) (.inl (false,()))):=by
  have key:=all_loopE (S:=zby) (fun i=>(l,(l.length:Int),(i:Int),())) l.length (atB zge l) () (fun i hi=>by
    simp only[zby,dlt hi,cond_true,zaL hi,Option.bind_some,impl_ratOk (h.2 _ (List.getElem_mem hi)),zas hi h.1,zjQ zge hi,zge]
    cases pB (Good l[i])<;>rfl) (by simp[zby])
  rw[zfe] at key; exact key
def inB (n lo hi:Int):Bool:=decide (n ≥ lo) && decide (n≤hi)
theorem zAp (n lo hi:Int):zds n lo hi=some (inB n lo hi):=by
  unfold zds inB; cases decide (n ≥ lo)<;>rfl
theorem zv0 (n:Int):zdy n=some (inB n 0 24):=by
  unfold zdy inB; cases decide (n ≥ 0)<;>rfl
def mxB (m:Mx):Bool:=inB m.rows 0 24 && (inB m.cols 0 24 && (((m.cells.length:Int)==IntKind.i64.wrap (m.rows * m.cols)) && m.cells.all zge))
theorem zqr {m:Mx} (h:znL Rt.fit m.cells):zex m=some (mxB m):=by
  unfold zex mxB zg0
  refine chain (zAp ..) (chain (zAp ..) ?_)
  rw[show ((m.cells.length:Int) != IntKind.i64.wrap (m.rows * m.cols))=!((m.cells.length:Int)==IntKind.i64.wrap (m.rows * m.cols)) from rfl]
  refine zrX ?_
  rw[zyd h]
  cases m.cells.all zge<;>rfl
theorem zre {m:Mx} (h:znL Rt.fit m.cells):zce m=some (mxB m):=by
  unfold zce mxB zg7
  refine chain (zv0 _) (chain (zv0 _) ?_)
  rw[show ((m.cells.length:Int) != IntKind.i64.wrap (m.rows * m.cols))=!((m.cells.length:Int)==IntKind.i64.wrap (m.rows * m.cols)) from rfl]
  refine zrX ?_
  rw[zyW h]
  cases m.cells.all zge<;>rfl
/-! ### Networks -/
end Go.Di
namespace Go.Di
def upto (k:Int) (n:Nat):List Int:=(List.range n).map fun (i:Nat)=>k+(i:Int)
@[simp] theorem zFJ (k:Int) (n:Nat):(upto k n).length=n:=by simp[upto]
theorem upto_at {k:Int} {n i:Nat} (h:i < n):(upto k n)[i]'(by simpa using h)=k+i:=by simp[upto]
theorem upto_succ (k:Int) (n:Nat):upto k (n+1)=upto k n++[k+n]:=by simp[upto,List.range_succ]
theorem zqP {a:List Int} {k:Int} (ha:a.length≤1048576) (h0:0≤k) (h1:k≤1000000000000):zcr a k=some (k+a.length,upto k a.length):=by
  unfold zcr zft
  have key:=za0 zbj (fun i=>(k+(i:Int),(i:Int),upto k i++a.drop i,())) a.length (k+(a.length:Int),upto k a.length,()) (fun i hi=>by
    have hl:(upto k i++a.drop i).length=a.length:=by simp; omega
    have hlt:decide ((i:Int) < ((upto k i++a.drop i).length:Int))=true:=by rw[hl]; exact dlt hi
    have hi':i < (upto k i++a.drop i).length:=by rw[hl]; exact hi
    have e1:IntKind.i64.wrap (k+(i:Int)+1)=k+((i+1:Nat):Int):=by rw[wrap_i64 (by omega) (by omega)]; omega
    simp only[zbj,hlt,cond_true,zaL hi',Option.bind_some,e1,zas hi ha,Int.toNat_natCast]
    congr 4
    rw[upto_succ,List.set_append_right _ _ (by simp),zFJ,Nat.sub_self,List.drop_eq_getElem_cons hi,List.set_cons_zero,List.append_assoc]
    rfl) (by simp[zbj])
  simp only[Int.natCast_zero,Int.add_zero] at key
  rw[show upto k 0++a.drop 0=a by simp[upto]] at key
  rw[key]; rfl
theorem zrm {k:Int} {n:Nat} (hn:n≤1048576) (h0:0≤k) (h1:k≤1000000000000):zdw (upto k n) k=some (k+n):=by
  unfold zdw zg3
  have key:=za0 zb2 (fun i=>(upto k n,k+(i:Int),(i:Int),())) n (.inr (k+(n:Int),())) (fun i hi=>by
    have hi':i < (upto k n).length:=by simpa using hi
    have hlt:decide ((i:Int) < ((upto k n).length:Int))=true:=dlt hi'
    have e1:IntKind.i64.wrap (k+(i:Int)+1)=k+((i+1:Nat):Int):=by rw[wrap_i64 (by omega) (by omega)]; omega
    have e2:((upto k n)[i] != k+(i:Int))=false:=by rw[upto_at hi]; simp
    simp only[zb2,hlt,cond_true,zaL hi',Option.bind_some,e1,zas hi hn,e2,cond_false]) (by simp[zb2])
  simp only[Int.natCast_zero,Int.add_zero] at key
  rw[key]; rfl
theorem zQc {x:Int} (h:0≤x):decide (x < 0)=false:=decide_eq_false (by omega)
theorem zL4 (x:Int):(x != x)=false:=by simp
end Go.Di
namespace Go.Di
end Go.Di
namespace Go.Di
theorem zAs (o:Option Rat):zfz (ro o)=some o.isNone:=by unfold zfz; rw[zwe]
theorem zAr {o p:Option Rat} (ho:Oks o) (hp:Oks p):zer (ro o) (ro p)=some (ro (divO o p)):=by
  unfold zer
  have hom:=zmG ho
  have hpm:=zmG hp
  have hod:=zkk ho
  have hpd:=zkk hp
  cases o with
  | none =>
    obtain ⟨m,d,e1,e2⟩:∃ m d:Nat,(ro p).mag=dg m∧(ro p).den=dg d:=by
      cases p with
      | none=>exact ⟨0,0,zaB.symm,zaB.symm⟩
      | some r=>exact ⟨_,_,rfl,rfl⟩
    rw[e1] at hpm; rw[e2] at hpd
    rw[zeS,e1,e2]
    rw[zcl (by rw[zaB]; simp) (by omega),Option.bind_some,zcl (by rw[zaB]; simp) (by omega),Option.bind_some,Nat.zero_mul,Nat.zero_mul,zgC (by rw[zaB]; simp),Option.bind_some]; rfl
  | some q =>
    have fq:=ho q rfl
    cases p with
    | none =>
      rw[zeS]
      show ((zat (dg q.num.natAbs) (dg 0)).bind fun r1=>(zat (dg q.den) (dg 0)).bind _)=_
      rw[zcl (by have:=fq.1; omega) (by rw[zaB]; simp),Option.bind_some,zcl (by have:=fq.2; omega) (by rw[zaB]; simp),Option.bind_some,Nat.mul_zero,Nat.mul_zero,zgC (by rw[zaB]; simp),Option.bind_some]; rfl
    | some r =>
      have fr:=hp r rfl
      have h3:=zeR fq.2 fr.1
      have h4:=zeR fq.1 fr.2
      show ((zat (dg q.num.natAbs) (dg r.den)).bind fun r1=>(zat (dg q.den) (dg r.num.natAbs)).bind fun r2=>(zaS (!(decide (q.num < 0)==decide (r.num < 0))) r1 r2).bind _)=_
      rw[zcl (by have:=fq.1; omega) (by have:=fr.2; omega),Option.bind_some,zcl (by have:=fq.2; omega) (by have:=fr.1; omega),Option.bind_some]
      by_cases h0:r=0
      · have:r.num.natAbs=0:=by rw[h0]; rfl
        rw[this,Nat.mul_zero,zgC (by omega),Option.bind_some]
        simp[divO,h0]
      · have hn:r.num.natAbs≠0:=fun h=>h0 (Rat.num_eq_zero.1 (by omega))
        rw[zmc (Nat.mul_ne_zero q.den_nz hn) (by omega) (by omega),Option.bind_some]
        have hs:=zAS q.num (sg (decide (r.num < 0)) r.den)
        rw[zkh,zvx r.den_nz] at hs
        rw[hs,zBq q r h0]
        simp[divO,h0]
/-! ### Signs -/
/-! ### Rounded down -/
/-! ### Roots of fractions -/
/-! ### Readings -/
end Go.Di
namespace Go.Di
/-! ### Marks on lists -/
def ws {α:Type} (w:α→Nat) (l:List α):Nat:=(l.map w).sum
theorem zz6 {α:Type} (w:α→Nat) (l:List α) {i:Nat} (h:i < l.length):ws w (l.take (i+1))=ws w (l.take i)+w l[i]:=by
  unfold ws
  rw[List.take_succ_eq_append_getElem h,List.map_append,List.sum_append]; simp
theorem zMJ {α:Type} (w:α→Nat) (l:List α) (i:Nat):ws w (l.take i)≤ws w l:=by
  have:ws w l=ws w (l.take i)+ws w (l.drop i):=by
    unfold ws
    rw[← List.sum_append,← List.map_append,List.take_append_drop]
  omega
theorem zH8 {α:Type} (w:α→Nat) (l:List α):ws w (l.take l.length)=ws w l:=by rw[List.take_length]
def zfp {α:Type} (mk:Int→α→α) (w:α→Nat) (k:Int) (a:List α) (i:Nat):List α:=a.mapIdx fun j x=>if j < i then mk (k+(ws w (a.take j):Nat)) x else x
def marks {α:Type} (mk:Int→α→α) (w:α→Nat) (k:Int) (a:List α):List α:=zfp mk w k a a.length
theorem zj2 {α:Type} (mk:Int→α→α) (w:α→Nat) (k:Int) (a:List α) (i:Nat):(zfp mk w k a i).length=a.length:=by simp[zfp]
theorem zq6 {α:Type} (mk:Int→α→α) (w:α→Nat) (k:Int) (a:List α):(marks mk w k a).length=a.length:=zj2 ..
theorem zqN {α:Type} (mk:Int→α→α) (w:α→Nat) (k:Int) (a:List α):zfp mk w k a 0=a:=by
  apply List.ext_getElem?
  intro j
  simp only[zfp,List.getElem?_mapIdx,Nat.not_lt_zero,if_false]
  cases a[j]? <;> rfl
theorem zyp {α:Type} (mk:Int→α→α) (w:α→Nat) (k:Int) (a:List α) {i:Nat} (h:i < a.length):(zfp mk w k a i)[i]? = some a[i]:=by
  simp[zfp,h]
theorem zqO {α:Type} (mk:Int→α→α) (w:α→Nat) (k:Int) (a:List α) {i:Nat} (h:i < a.length) :
    (zfp mk w k a i).set i (mk (k+(ws w (a.take i):Nat)) a[i])=zfp mk w k a (i+1):=by
  apply List.ext_getElem?
  intro j
  rw[List.getElem?_set]
  simp only[zfp,List.getElem?_mapIdx,List.length_mapIdx]
  by_cases hj:i=j
  · subst hj; simp[h]
  · rw[if_neg hj]
    by_cases hlt:j < i
    · simp[hlt,show j < i+1 by omega]
    · simp[hlt,show ¬ j < i+1 by omega]
theorem zFt {α:Type} (mk:Int→α→α) (w:α→Nat) (k:Int) (a:List α) {i:Nat} (h:i < a.length):(marks mk w k a)[i]? = some (mk (k+(ws w (a.take i):Nat)) a[i]):=by
  simp[marks,zfp,h]
theorem zBt {α:Type} {mk:Int→α→α} {w:α→Nat} {S:Int × Int × List α × Unit→Option ((Int × Int × List α × Unit) ⊕ (Int × List α × Unit))} {a:List α} {k:Int} {B:Int} (h0:0≤k) (hB:k+(ws w a:Nat)≤B)
    (hS:∀ (i:Nat) (K:Int) (c:List α) (h:i < a.length),0≤K→K≤B→c.length=a.length→c[i]? = some a[i]→S (K,(i:Int),c,())=some (.inl (K+(w a[i]:Nat),((i+1:Nat):Int),c.set i (mk K a[i]),())))
    (hE:∀ K c,c.length=a.length→S (K,(a.length:Int),c,())=some (.inr (K,c,()))):whileO S (k,0,a,())=some (k+(ws w a:Nat),marks mk w k a,()):=by
  have key:=za0 S (fun i=>(k+(ws w (a.take i):Nat),(i:Int),zfp mk w k a i,())) a.length (k+(ws w a:Nat),marks mk w k a,()) (fun i hi=>by
    have hle:=zMJ w a i
    rw[hS i _ _ hi (by omega) (by omega) (zj2 ..) (zyp _ _ _ _ hi),zqO _ _ _ _ hi,zz6 w a hi]
    congr 3
    omega) (by
    rw[hE _ _ (zj2 ..),zH8]; rfl)
  rw[zqN] at key
  have h0:ws w (a.take 0)=0:=by simp[ws]
  rw[h0] at key
  simpa using key
theorem zDl {α:Type} {mk:Int→α→α} {w:α→Nat} {S:List α × Int × Int × Unit→Option ((List α × Int × Int × Unit) ⊕ ((Int × Unit) ⊕ (Int × Unit)))} {a:List α} {k:Int} {B:Int} (h0:0≤k) (hB:k+(ws w a:Nat)≤B)
    (hS:∀ (i:Nat) (K:Int) (c:List α) (h:i < a.length),0≤K→K≤B→c.length=a.length→c[i]? = some (mk K a[i])→S (c,K,(i:Int),())=some (.inl (c,K+(w a[i]:Nat),((i+1:Nat):Int),())))
    (hE:∀ K c,c.length=a.length→S (c,K,(a.length:Int),())=some (.inr (.inr (K,())))):whileO S (marks mk w k a,k,0,())=some (.inr (k+(ws w a:Nat),())):=by
  have key:=za0 S (fun i=>(marks mk w k a,k+(ws w (a.take i):Nat),(i:Int),())) a.length (.inr (k+(ws w a:Nat),())) (fun i hi=>by
    have hle:=zMJ w a i
    rw[hS i _ _ hi (by omega) (by omega) (zq6 ..) (zFt _ _ _ _ hi),zz6 w a hi]
    congr 4
    omega) (by
    rw[hE _ _ (zq6 ..),zH8])
  have h0:ws w (a.take 0)=0:=by simp[ws]
  rw[h0] at key
  simpa using key
theorem zuE {α:Type} {c:List α} {i:Nat} {x:α} (h:c[i]? = some x):idx c (i:Int)=some x:=by rw[zj4]; exact h
theorem lt_of_get {α:Type} {c:List α} {i:Nat} {x:α} (h:c[i]? = some x):i < c.length:=(List.getElem?_eq_some_iff.1 h).1
theorem zDn {α:Type} {c:List α} {i:Nat} (h:i < c.length) (x:α):(c.set i x)[i]? = some x:=List.getElem?_set_self h
theorem zLH {α:Type} {c:List α} {i:Nat} (h:i < c.length) (x:α):idx (c.set i x) (i:Int)=some x:=zuE (zDn h x)
/-! ### Fractions -/
def wR (r:Rt):Nat:=1+r.mag.length+r.den.length
def mkR (k:Int) (r:Rt):Rt:=⟨(k.tmod 3)==0,upto (k+1) r.mag.length,upto (k+1+r.mag.length) r.den.length⟩
theorem zz7 (l:List Rt):ws wR l=lsz Rt.sz l:=by
  unfold ws lsz
  induction l with
  | nil=>rfl
  | cons r l ih=>simp only[List.map_cons,List.sum_cons,List.length_cons,ih]; unfold wR Rt.sz; omega
theorem zv8 {l:List Rt} (h:znL Rt.fit l) {i:Nat} (hi:i < l.length):l[i].fit:=h.2 _ (List.getElem_mem hi)
theorem zm0 {a:List Rt} (ha:znL Rt.fit a) (hw:ws wR a≤1000000000) {k:Int} (h0:0≤k) (h1:k≤1000000000):zbM a k=some (k+(ws wR a:Nat),marks mkR wR k a):=by
  unfold zbM zfs
  rw[zBt (mk:=mkR) (w:=wR) (B:=2000000000) h0 (by omega) (fun i K c hi q0 q1 hl hc=>?_) (fun K c hl=>by simp[zbR,hl])]
  · rfl
  · have hlt:=lt_of_get hc
    have hf:=zv8 ha hi
    have f1:=hf.1
    have f2:=hf.2
    have e1:IntKind.i64.wrap (K+1)=K+1:=wrap_i64 (by omega) (by omega)
    simp only[zbR,dlt hlt,cond_true,zuE hc,Option.bind_some,Int.toNat_natCast,hc,zLH hlt,zDn hlt,List.set_set,e1,
      zqP f1 (show 0≤K+1 by omega) (by omega),zqP f2 (show 0≤K+1+(a[i].mag.length:Int) by omega) (by omega),zas hi ha.1]
    congr 3
    unfold wR; omega
theorem zDk {a:List Rt} (ha:znL Rt.fit a) (hw:ws wR a≤1000000000) {k:Int} (h0:0≤k) (h1:k≤1000000000):zdv (marks mkR wR k a) k=some (k+(ws wR a:Nat)):=by
  unfold zdv zg2
  rw[zDl (mk:=mkR) (w:=wR) (B:=2000000000) h0 (by omega) (fun i K c hi q0 q1 hl hc=>?_) (fun K c hl=>by simp[zcG,hl])]
  · rfl
  · have hlt:=lt_of_get hc
    have hf:=zv8 ha hi
    have f1:=hf.1
    have f2:=hf.2
    have e1:IntKind.i64.wrap (K+1)=K+1:=wrap_i64 (by omega) (by omega)
    simp only[zcG,dlt hlt,cond_true,zuE hc,Option.bind_some,e1,mkR,beq_self_eq_true,Bool.not_true,cond_false,
      zrm f1 (show 0≤K+1 by omega) (by omega),zrm f2 (show 0≤K+1+(a[i].mag.length:Int) by omega) (by omega),zas hi ha.1,
      zQc (show 0≤K+1+(a[i].mag.length:Int) by omega),zQc (show 0≤K+1+(a[i].mag.length:Int)+(a[i].den.length:Int) by omega)]
    congr 4
    unfold wR; omega
theorem zKD {m:Mx} (ha:znL Rt.fit m.cells) (hw:ws wR m.cells≤1000000000) {k:Int} (h0:0≤k) (h1:k≤1000000000):zcC m k=some (k+(ws wR m.cells:Nat),marks mkR wR k m.cells):=by
  unfold zcC
  rw[zm0 ha hw h0 h1]; rfl
/-! ### Loops that append -/
theorem zmv {β σ ρ:Type} {S:σ→Option (σ ⊕ ρ)} (st:Int→List β→σ) (g:Nat→β) (n:Nat) {r:List β→ρ}
    (hS:∀ (i:Nat) out,i < n→out.length=i→S (st (i:Int) out)=some (.inl (st ((i+1:Nat):Int) (out++[g i])))) (hE:∀ out,out.length=n→S (st (n:Int) out)=some (.inr (r out))) :
    whileO S (st 0 [])=some (r ((List.range n).map g)):=by
  have key:=za0 S (fun i=>st (i:Int) ((List.range i).map g)) n (r ((List.range n).map g)) (fun i hi=>by
    rw[hS i _ hi (by simp),List.range_succ,List.map_append]; rfl) (hE _ (by simp))
  simpa using key
theorem zmN {α:Type} (l:List α) (d:α):(List.range l.length).map (fun i=>(l[i]?).getD d)=l:=by
  apply List.ext_getElem?
  intro j
  rw[List.getElem?_map]
  by_cases h:j < l.length
  · rw[List.getElem?_range h]; simp[h]
  · rw[List.getElem?_eq_none (by simpa using h),List.getElem?_eq_none (by omega)]; rfl
theorem zmF {n:Nat} (h:n≤2000000):zaj (Nat.ble (n+1) zan)=some ():=by
  have:Nat.ble (n+1) zan=true:=Nat.ble_eq_true_of_le (by unfold zan; omega)
  rw[this]; rfl
theorem zrg {l:List Rt} (h:znL Rt.fit l):zb6 l=some l:=by
  unfold zb6 zgd
  have h1:=h.1
  rw [zmv (S:=zbx) (fun i out=>(l,(l.length:Int),i,out,())) (fun i=>(l[i]?).getD ⟨false,[],[]⟩) l.length (r:=fun out=>(out,())) (fun i out hi ho=>by
    have hg:l[i]? = some l[i]:=List.getElem?_eq_getElem hi
    simp only[zbx,dlt hi,cond_true,zaL hi,Option.bind_some,zlY (zv8 h hi),zmF (show out.length≤2000000 by omega),zas hi h.1,hg,Option.getD_some]) (fun out _=>by simp[zbx]),zmN]
  rfl
theorem spec_copyVec {l:List Rt} (h:znL Rt.fit l):zdc l=some l:=by
  unfold zdc zhJ
  have h1:=h.1
  rw [zmv (S:=zcj) (fun i out=>(l,(l.length:Int),i,out,())) (fun i=>(l[i]?).getD ⟨false,[],[]⟩) l.length (r:=fun out=>(out,())) (fun i out hi ho=>by
    have hg:l[i]? = some l[i]:=List.getElem?_eq_getElem hi
    simp only[zcj,dlt hi,cond_true,zaL hi,Option.bind_some,zqs (zv8 h hi),zmF (show out.length≤2000000 by omega),zas hi h.1,hg,Option.getD_some]) (fun out _=>by simp[zcj]),zmN]
  rfl
/-! ### Valid vectors -/
def Fits (q:List Rat):Prop:=∀ x∈q,Fit x
theorem zuD:∀ {l:List Rt},l.all zge=true→∃ q:List Rat,Fits q∧l=q.map rq
  | [],_=>⟨[],fun x h=>(by cases h),rfl⟩
  | r :: l,h=>by
    rw[List.all_cons,Bool.and_eq_true] at h
    obtain ⟨q,hq,rfl⟩:=zuD h.2
    obtain ⟨x,hx,rfl⟩:=pB_iff.1 h.1
    exact ⟨x :: q,fun y hy=>by
      rcases List.mem_cons.1 hy with rfl | hy
      · exact hx
      · exact hq y hy,rfl⟩
theorem zBc {q:List Rat} (h:Fits q):(q.map rq).all zge=true:=by
  rw[List.all_eq_true]
  intro r hr
  obtain ⟨x,hx,rfl⟩:=List.mem_map.1 hr
  exact zLL (h x hx)
theorem Fits.get {q:List Rat} (h:Fits q) (i:Nat):Oks q[i]? := fun x hx=>h x (List.mem_of_getElem? hx)
theorem zPf {q:Rat} (h:Fit q):(rq q).sz≤48:=by
  have:=h.1
  have:=h.2
  show (dg q.num.natAbs).length+(dg q.den).length≤48
  omega
theorem zPh {o:Option Rat} (h:Oks o):(ro o).sz≤48:=by
  cases o with
  | none=>show 0+0≤48; omega
  | some q=>exact zPf (h q rfl)
structure Rfit (l:List Rt):Prop where
  fit:znL Rt.fit l
  few:ws wR l≤1000000000
theorem zo8 {l:List Rt} (h:lsz Rt.sz l≤1048576):Rfit l:=⟨zKO (f:=Rt.sz) (fun _=>Rt.znh) h,by rw[zz7]; omega⟩
theorem zBx {l:List Rt} (h:∀ x∈l,x.sz≤48) (n:Nat) (hn:l.length≤n):lsz Rt.sz l≤49 * n:=by
  have : (l.map Rt.sz).sum≤48 * l.length:=by
    clear hn
    induction l with
    | nil=>simp
    | cons r l ih =>
      have h1:=ih fun x hx=>h x (List.mem_cons_of_mem _ hx)
      have h2:=h r (List.mem_cons_self ..)
      simp only[List.map_cons,List.sum_cons,List.length_cons]; omega
  unfold lsz; omega
theorem zts {l:List (Option Rat)} (h:∀ o∈l,Oks o) (hn:l.length≤20000):Rfit (l.map ro):=by
  refine zo8 (Nat.le_trans (zBx (n:=20000) (fun x hx=>?_) (by simpa using hn)) (by omega))
  obtain ⟨o,ho,rfl⟩:=List.mem_map.1 hx
  exact zPh (h o ho)
theorem zKt {l:List Rat} (h:Fits l) (hn:l.length≤20000):Rfit (l.map rq):=by
  have:l.map rq=(l.map some).map ro:=by rw[List.map_map]; rfl
  rw[this]
  refine zts (fun o ho=>?_) (by simpa using hn)
  obtain ⟨x,hx,rfl⟩:=List.mem_map.1 ho
  exact (h x hx).ok
theorem zo7:Rfit []:=⟨⟨by simp,fun x h=>(by cases h)⟩,by simp[ws]⟩
theorem zLI {l:List (Option Rat)} {i:Nat} (h:i < l.length):idx (l.map ro) (i:Int)=some (ro l[i]):=by
  rw[zj4,List.getElem?_map,List.getElem?_eq_getElem h]; rfl
/-! ### Inner products -/
theorem zNa (q:Rat):zc1 (rq q)=some (decide (q=0)):=by
  show some (((dg q.num.natAbs).length:Int)==0)=_
  rw[zhp]
  congr 1
  rw[Bool.eq_iff_iff,decide_eq_true_iff,decide_eq_true_iff,Int.natAbs_eq_zero,Rat.num_eq_zero]
theorem zj1 (y:Rat):zl6 (some y) (some 0)=some 0:=by
  show chk (y * 0)=some 0
  rw[Rat.mul_zero,zgt zkv]
/-! ### Vectors without gaps -/
theorem zpp {l:List (Option Rat)} (h:l.length≤1048576):za8 (l.map ro)=some (l.all Option.isSome):=by
  unfold za8 zg6
  have key:=all_loopE (S:=zb4) (fun i=>(l.map ro,((l.map ro).length:Int),(i:Int),())) l.length (atB Option.isSome l) () (fun i hi=>by
    have hi':i < (l.map ro).length:=by simpa using hi
    simp only[zb4,dlt hi',cond_true,zLI hi,Option.bind_some,zef,zas hi h,zjQ Option.isSome hi]
    cases l[i]<;>rfl) (by simp[zb4])
  rw[zfe] at key
  rw[show ((0:Nat):Int)=0 from rfl] at key
  rw[key]
  cases l.all Option.isSome<;>rfl
theorem zmy {l:List (Option Rat)} (h:l.length≤1048576):zcy (l.map ro)=some (l.all Option.isSome):=by
  unfold zcy zhI
  have key:=all_loopE (S:=zci) (fun i=>(l.map ro,((l.map ro).length:Int),(i:Int),())) l.length (atB Option.isSome l) () (fun i hi=>by
    have hi':i < (l.map ro).length:=by simpa using hi
    simp only[zci,dlt hi',cond_true,zLI hi,Option.bind_some,zAs,zas hi h,zjQ Option.isSome hi]
    cases l[i]<;>rfl) (by simp[zci])
  rw[zfe] at key
  rw[show ((0:Nat):Int)=0 from rfl] at key
  rw[key]
  cases l.all Option.isSome<;>rfl
def zES (v:List Rt):Bool:=decide (v.length≤24) && v.all zge
theorem zQu {n:Nat}:decide ((n:Int) > 24)=!decide (n≤24):=by rw[Bool.eq_iff_iff]; simp; omega
theorem zoo {v:List Rt} (h:znL Rt.fit v):zdA v=some (zES v):=by
  unfold zdA zg8 zES
  rw[zQu]
  have key:=all_loopE (S:=zb5) (fun i=>(v,(v.length:Int),(i:Int),())) v.length (atB zge v) () (fun i hi=>by
    simp only[zb5,dlt hi,cond_true,zaL hi,Option.bind_some,impl_ratOk (h.2 _ (List.getElem_mem hi)),zas hi h.1,zjQ zge hi,zge]
    cases pB (Good v[i])<;>rfl) (by simp[zb5])
  rw[zfe] at key
  rw[show ((0:Nat):Int)=0 from rfl] at key
  rw[key]
  cases decide (v.length≤24)<;>cases v.all zge<;>rfl
theorem znY {v:List Rt} (h:znL Rt.fit v):zey v=some (zES v):=by
  unfold zey zg1 zES
  rw[zQu]
  have key:=all_loopE (S:=zb1) (fun i=>(v,(v.length:Int),(i:Int),())) v.length (atB zge v) () (fun i hi=>by
    simp only[zb1,dlt hi,cond_true,zaL hi,Option.bind_some,spec_ratOk (h.2 _ (List.getElem_mem hi)),zas hi h.1,zjQ zge hi,zge]
    cases pB (Good v[i])<;>rfl) (by simp[zb1])
  rw[zfe] at key
  rw[show ((0:Nat):Int)=0 from rfl] at key
  rw[key]
  cases decide (v.length≤24)<;>cases v.all zge<;>rfl
end Go.Di
