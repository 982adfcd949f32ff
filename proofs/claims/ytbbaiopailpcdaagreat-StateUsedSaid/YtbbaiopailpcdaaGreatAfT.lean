/-
The functions' abstract texts, by their numbers.
-/
import Derived.Test.YtbbaiopailpcdaaGreatAf1
import Derived.Test.YtbbaiopailpcdaaGreatAf2
namespace Go.Eng.AF
open Go Go.Eng
def s9 : FT := (.node (.node (.node (.node .nil 3 f3 .nil) 4 f4 (.node .nil 5 f5 .nil)) 6 f6 (.node (.node .nil 7 f7 .nil) 8 f8 .nil)) 9 f9 (.node (.node (.node .nil 10 f10 .nil) 11 f11 (.node .nil 12 f12 .nil)) 13 f13 (.node (.node .nil 14 f14 .nil) 15 f15 .nil)))
def s23 : FT := (.node (.node (.node (.node .nil 17 f17 .nil) 18 f18 (.node .nil 19 f19 .nil)) 20 f20 (.node (.node .nil 21 f21 .nil) 22 f22 .nil)) 23 f23 (.node (.node (.node .nil 24 f24 .nil) 25 f25 .nil) 26 f26 (.node (.node .nil 27 f27 .nil) 28 f28 .nil)))
def s36 : FT := (.node (.node (.node (.node .nil 30 f30 .nil) 31 f31 (.node .nil 32 f32 .nil)) 33 f33 (.node (.node .nil 34 f34 .nil) 35 f35 .nil)) 36 f36 (.node (.node (.node .nil 37 f37 .nil) 38 f38 .nil) 39 f39 (.node (.node .nil 40 f40 .nil) 41 f41 .nil)))
def s49 : FT := (.node (.node (.node (.node .nil 43 f43 .nil) 44 f44 (.node .nil 45 f45 .nil)) 46 f46 (.node (.node .nil 47 f47 .nil) 48 f48 .nil)) 49 f49 (.node (.node (.node .nil 50 f50 .nil) 51 f51 .nil) 52 f52 (.node (.node .nil 53 f53 .nil) 54 f54 .nil)))
def s62 : FT := (.node (.node (.node (.node .nil 56 f56 .nil) 57 f57 (.node .nil 58 f58 .nil)) 59 f59 (.node (.node .nil 60 f60 .nil) 61 f61 .nil)) 62 f62 (.node (.node (.node .nil 63 f63 .nil) 64 f64 (.node .nil 65 f65 .nil)) 66 f66 (.node (.node .nil 67 f67 .nil) 68 f68 .nil)))
def s79 : FT := (.node (.node (.node (.node .nil 70 f70 .nil) 71 f71 (.node .nil 72 f72 .nil)) 73 f73 (.node (.node .nil 75 f75 .nil) 78 f78 .nil)) 79 f79 (.node (.node (.node .nil 80 f80 .nil) 83 f83 .nil) 84 f84 (.node (.node .nil 85 f85 .nil) 86 f86 .nil)))
def s96 : FT := (.node (.node (.node (.node .nil 89 f89 .nil) 91 f91 (.node .nil 92 f92 .nil)) 93 f93 (.node (.node .nil 94 f94 .nil) 95 f95 .nil)) 96 f96 (.node (.node (.node .nil 97 f97 .nil) 98 f98 .nil) 99 f99 (.node (.node .nil 100 f100 .nil) 101 f101 .nil)))
def s109 : FT := (.node (.node (.node (.node .nil 103 f103 .nil) 104 f104 (.node .nil 105 f105 .nil)) 106 f106 (.node (.node .nil 107 f107 .nil) 108 f108 .nil)) 109 f109 (.node (.node (.node .nil 112 f112 .nil) 113 f113 .nil) 114 f114 (.node (.node .nil 115 f115 .nil) 116 f116 .nil)))
def s124 : FT := (.node (.node (.node (.node .nil 118 f118 .nil) 119 f119 (.node .nil 120 f120 .nil)) 121 f121 (.node (.node .nil 122 f122 .nil) 123 f123 .nil)) 124 f124 (.node (.node (.node .nil 127 f127 .nil) 128 f128 (.node .nil 129 f129 .nil)) 130 f130 (.node (.node .nil 131 f131 .nil) 132 f132 .nil)))
def s143 : FT := (.node (.node (.node (.node .nil 134 f134 .nil) 135 f135 (.node .nil 136 f136 .nil)) 137 f137 (.node (.node .nil 138 f138 .nil) 142 f142 .nil)) 143 f143 (.node (.node (.node .nil 145 f145 .nil) 146 f146 .nil) 147 f147 (.node (.node .nil 148 f148 .nil) 149 f149 .nil)))
def s157 : FT := (.node (.node (.node (.node .nil 151 f151 .nil) 152 f152 (.node .nil 153 f153 .nil)) 154 f154 (.node (.node .nil 155 f155 .nil) 156 f156 .nil)) 157 f157 (.node (.node (.node .nil 158 f158 .nil) 159 f159 .nil) 160 f160 (.node (.node .nil 161 f161 .nil) 162 f162 .nil)))
def s171 : FT := (.node (.node (.node (.node .nil 164 f164 .nil) 165 f165 (.node .nil 166 f166 .nil)) 167 f167 (.node (.node .nil 168 f168 .nil) 170 f170 .nil)) 171 f171 (.node (.node (.node .nil 172 f172 .nil) 173 f173 .nil) 174 f174 (.node (.node .nil 176 f176 .nil) 177 f177 .nil)))
def s203 : FT := (.node (.node (.node (.node .nil 179 f179 .nil) 190 f190 (.node .nil 192 f192 .nil)) 200 f200 (.node (.node .nil 201 f201 .nil) 202 f202 .nil)) 203 f203 (.node (.node (.node .nil 204 f204 .nil) 205 f205 .nil) 207 f207 (.node (.node .nil 208 f208 .nil) 209 f209 .nil)))
def s220 : FT := (.node (.node (.node (.node .nil 213 f213 .nil) 214 f214 (.node .nil 215 f215 .nil)) 216 f216 (.node (.node .nil 217 f217 .nil) 219 f219 .nil)) 220 f220 (.node (.node (.node .nil 221 f221 .nil) 222 f222 .nil) 223 f223 (.node (.node .nil 225 f225 .nil) 226 f226 .nil)))
def s251 : FT := (.node (.node (.node (.node .nil 240 f240 .nil) 241 f241 (.node .nil 242 f242 .nil)) 243 f243 (.node (.node .nil 249 f249 .nil) 250 f250 .nil)) 251 f251 (.node (.node (.node .nil 256 f256 .nil) 257 f257 .nil) 258 f258 (.node (.node .nil 259 f259 .nil) 260 f260 .nil)))
def s280 : FT := (.node (.node (.node (.node .nil 263 f263 .nil) 264 f264 (.node .nil 265 f265 .nil)) 269 f269 (.node (.node .nil 274 f274 .nil) 275 f275 .nil)) 280 f280 (.node (.node (.node .nil 281 f281 .nil) 282 f282 .nil) 283 f283 (.node (.node .nil 284 f284 .nil) 292 f292 .nil)))
def fns : FT :=
  (.node (.node (.node (.node s9 16 f16 s23) 29 f29 (.node s36 42 f42 s49)) 55 f55 (.node (.node s62 69 f69 s79) 88 f88 (.node s96 102 f102 s109))) 117 f117 (.node (.node (.node s124 133 f133 s143) 150 f150 (.node s157 163 f163 s171)) 178 f178 (.node (.node s203 212 f212 s220) 227 f227 (.node s251 262 f262 s280))))
end Go.Eng.AF
